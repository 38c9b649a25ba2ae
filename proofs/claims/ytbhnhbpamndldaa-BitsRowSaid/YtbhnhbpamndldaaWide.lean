/- bits.wide at its three instances answers 2, 4, 8: the loops as functions with a number of rounds, and the walks. -/
import Derived.Test.YtbhnhbpamndldaaProg
import Derived.Below
import Derived.Deep.Draws
import Derived.Deep.AppendLies
import Derived.Maps.AppendAt
import Derived.OwnWalk
import Derived.Laws.BytesArg
import Derived.Laws.MakeOwn
import Derived.Laws.OwnMore
import Derived.Deep.OwnRows
import Derived.Tactics
import Derived.Lib.ConvBytes
import Derived.Laws.Slices
import Derived.WalkKit
import Derived.KernelRfl
import Derived.RowKit3
import Derived.Deep.LoopGhost
import Derived.Deep.QuietTactic
import Derived.BigQuiet
import Derived.WideLaws
import Derived.Deep.DeepCutAuto
import Derived.Deep.CutBlock
import Derived.Deep.RegionHeld3
import Derived.Laws.Rows
import Derived.Lib.AppendStr
import Derived.ArgAppend
import Derived.Laws.IdiomCopy
import Derived.OrdersHeld
import Derived.Laws.BitsLemmas
import Derived.RowKit
import Derived.Test.YtbhnhbpamndldaaWWords
import Derived.Test.YtbhnhbpamndldaaWLast
import Derived.Test.YtbhnhbpamndldaaWTab
import Derived.Test.YtbhnhbpamndldaaWFour
import Derived.Test.YtbhnhbpamndldaaWQPut
import Derived.Test.YtbhnhbpamndldaaWApart
import Derived.Test.YtbhnhbpamndldaaWArr
import Derived.Test.YtbhnhbpamndldaaWZeros
import Derived.Test.YtbhnhbpamndldaaWFoot
import Derived.Test.YtbhnhbpamndldaaWKept
import Derived.Test.YtbhnhbpamndldaaWShare
import Derived.Test.YtbhnhbpamndldaaWN
import Derived.Test.YtbhnhbpamndldaaWFootNe
import Derived.Test.YtbhnhbpamndldaaWAt
import Derived.Test.YtbhnhbpamndldaaWEqStruct
import Derived.Test.YtbhnhbpamndldaaWRepsOne
import Derived.Test.YtbhnhbpamndldaaWInv
import Derived.Test.YtbhnhbpamndldaaWInvWords
import Derived.Test.YtbhnhbpamndldaaWGuard
import Derived.Test.YtbhnhbpamndldaaWNEv
import Derived.Test.YtbhnhbpamndldaaWMore
namespace Go.Proofs.Ytbhnhbpamndldaa.Bits
open Go.RowKit Go.Proofs.YtbhnhbpamndldaaW.PrintWords Go.Proofs.YtbhnhbpamndldaaW.PrintLast Go.Proofs.YtbhnhbpamndldaaW.PrintMore
set_option linter.unusedVariables false
set_option linter.unusedSimpArgs false

/-! ### bits_wide_uint32: function 55 -/
def bits_wide_uint32.l0 : Nat → Int → Int → Option (Int)
  | 0, _, _ => none
  | k + 1, x1, x2 => if x2 = 0 then (some x1) else (bits_wide_uint32.l0 k (wrap64 (x1 + 1)) (x2 / 256))
def bits_wide_uint32.f (k : Nat)  : Option (Int) := bits_wide_uint32.l0 k 0 (Go.bits .xor .u32 4294967295 0)
set_option maxHeartbeats 8000000 in
set_option maxRecDepth 100000 in
theorem bits_wide_uint32.calls (k : Nat)  (r : Int) (w : World) (h : bits_wide_uint32.f k  = some r) :
    Calls Try.prog 55 #[] w fun e w' => e = .returned (.int .i64 r) ∧ Drawn0 w w' := by
  have H : (bits_wide_uint32.l0 k 0 (Go.bits .xor .u32 4294967295 0)) = some r := h
  clear h
  have H' := Aside0.mk H
  clear H
  go_enter Try.func55, Try.ntmps55
  go_wp2
  go_loopg [1, 2] k (fun kq v1 v2 w' => ∃ (x1_1 : Int) (x2_1 : Int), v1 = .int .i64 x1_1 ∧ v2 = .int .u32 x2_1 ∧ Aside0 (bits_wide_uint32.l0 kq x1_1 x2_1 = some r) ∧ Aside0 (kq ≤ k) ∧ Drawn0 w w')
  case atStart => exact ⟨(0), (Go.bits .xor .u32 4294967295 0), (by first | rfl | (simp; done) | (simp [*]; done)), (by first | rfl | (simp; done) | (simp [*]; done)), H', ⟨Nat.le_refl _⟩, by repeat (first | exact Drawn0.refl _ | apply Drawn0.step)⟩
  case round =>
    clear H'
    obtain ⟨x1_1, x2_1, rfl, rfl, HA, HK1, ⟨m1, rfl⟩⟩ := hrel
    cases gk with
    | zero => exact absurd HA.out (by simp [bits_wide_uint32.l0])
    | succ k1 =>
      have H := HA.out
      clear HA
      simp only [bits_wide_uint32.l0] at H
      by_cases c1 : x2_1 = 0
      · rw [if_pos c1] at H
        have c1b0 : (x2_1 == 0) = true := beq_iff_eq.mpr c1
        have c1b1 : (x2_1 != 0) = false := bne_eq_false_iff_eq.mpr c1
        clear c1
        obtain rfl := Option.some.inj H
        go_wp2
        go_ret
        exact ⟨by first | rfl | (simp; done) | (simp [*]; done), by repeat (first | exact Drawn0.refl _ | apply Drawn0.step)⟩
      · rw [if_neg c1] at H
        have c1b0 : (x2_1 == 0) = false := beq_eq_false_iff_ne.mpr c1
        have c1b1 : (x2_1 != 0) = true := bne_iff_ne.mpr c1
        have H' := Aside0.mk H
        clear H
        go_wp2
        go_roundg k1
        case measure => have := HK1.out; omega
        case rel => exact ⟨(wrap64 (x1_1 + 1)), (x2_1 / 256), (by first | rfl | (simp; done) | (simp [*]; done)), (by first | rfl | (simp; done) | (simp [*]; done)), H', ⟨by have := HK1.out; omega⟩, by repeat (first | exact Drawn0.refl _ | apply Drawn0.step)⟩

/-! ### bits_wide_uint16: function 56 -/
def bits_wide_uint16.l0 : Nat → Int → Int → Option (Int)
  | 0, _, _ => none
  | k + 1, x1, x2 => if x2 = 0 then (some x1) else (bits_wide_uint16.l0 k (wrap64 (x1 + 1)) (x2 / 256))
def bits_wide_uint16.f (k : Nat)  : Option (Int) := bits_wide_uint16.l0 k 0 (Go.bits .xor .u16 65535 0)
set_option maxHeartbeats 8000000 in
set_option maxRecDepth 100000 in
theorem bits_wide_uint16.calls (k : Nat)  (r : Int) (w : World) (h : bits_wide_uint16.f k  = some r) :
    Calls Try.prog 56 #[] w fun e w' => e = .returned (.int .i64 r) ∧ Drawn0 w w' := by
  have H : (bits_wide_uint16.l0 k 0 (Go.bits .xor .u16 65535 0)) = some r := h
  clear h
  have H' := Aside0.mk H
  clear H
  go_enter Try.func56, Try.ntmps56
  go_wp2
  go_loopg [1, 2] k (fun kq v1 v2 w' => ∃ (x1_1 : Int) (x2_1 : Int), v1 = .int .i64 x1_1 ∧ v2 = .int .u16 x2_1 ∧ Aside0 (bits_wide_uint16.l0 kq x1_1 x2_1 = some r) ∧ Aside0 (kq ≤ k) ∧ Drawn0 w w')
  case atStart => exact ⟨(0), (Go.bits .xor .u16 65535 0), (by first | rfl | (simp; done) | (simp [*]; done)), (by first | rfl | (simp; done) | (simp [*]; done)), H', ⟨Nat.le_refl _⟩, by repeat (first | exact Drawn0.refl _ | apply Drawn0.step)⟩
  case round =>
    clear H'
    obtain ⟨x1_1, x2_1, rfl, rfl, HA, HK1, ⟨m1, rfl⟩⟩ := hrel
    cases gk with
    | zero => exact absurd HA.out (by simp [bits_wide_uint16.l0])
    | succ k1 =>
      have H := HA.out
      clear HA
      simp only [bits_wide_uint16.l0] at H
      by_cases c1 : x2_1 = 0
      · rw [if_pos c1] at H
        have c1b0 : (x2_1 == 0) = true := beq_iff_eq.mpr c1
        have c1b1 : (x2_1 != 0) = false := bne_eq_false_iff_eq.mpr c1
        clear c1
        obtain rfl := Option.some.inj H
        go_wp2
        go_ret
        exact ⟨by first | rfl | (simp; done) | (simp [*]; done), by repeat (first | exact Drawn0.refl _ | apply Drawn0.step)⟩
      · rw [if_neg c1] at H
        have c1b0 : (x2_1 == 0) = false := beq_eq_false_iff_ne.mpr c1
        have c1b1 : (x2_1 != 0) = true := bne_iff_ne.mpr c1
        have H' := Aside0.mk H
        clear H
        go_wp2
        go_roundg k1
        case measure => have := HK1.out; omega
        case rel => exact ⟨(wrap64 (x1_1 + 1)), (x2_1 / 256), (by first | rfl | (simp; done) | (simp [*]; done)), (by first | rfl | (simp; done) | (simp [*]; done)), H', ⟨by have := HK1.out; omega⟩, by repeat (first | exact Drawn0.refl _ | apply Drawn0.step)⟩

/-! ### bits_wide_uint64: function 54 -/
def bits_wide_uint64.l0 : Nat → Int → Int → Option (Int)
  | 0, _, _ => none
  | k + 1, x1, x2 => if x2 = 0 then (some x1) else (bits_wide_uint64.l0 k (wrap64 (x1 + 1)) (x2 / 256))
def bits_wide_uint64.f (k : Nat)  : Option (Int) := bits_wide_uint64.l0 k 0 (Go.bits .xor .u64 18446744073709551615 0)
set_option maxHeartbeats 8000000 in
set_option maxRecDepth 100000 in
theorem bits_wide_uint64.calls (k : Nat)  (r : Int) (w : World) (h : bits_wide_uint64.f k  = some r) :
    Calls Try.prog 54 #[] w fun e w' => e = .returned (.int .i64 r) ∧ Drawn0 w w' := by
  have H : (bits_wide_uint64.l0 k 0 (Go.bits .xor .u64 18446744073709551615 0)) = some r := h
  clear h
  have H' := Aside0.mk H
  clear H
  go_enter Try.func54, Try.ntmps54
  go_wp2
  go_loopg [1, 2] k (fun kq v1 v2 w' => ∃ (x1_1 : Int) (x2_1 : Int), v1 = .int .i64 x1_1 ∧ v2 = .int .u64 x2_1 ∧ Aside0 (bits_wide_uint64.l0 kq x1_1 x2_1 = some r) ∧ Aside0 (kq ≤ k) ∧ Drawn0 w w')
  case atStart => exact ⟨(0), (Go.bits .xor .u64 18446744073709551615 0), (by first | rfl | (simp; done) | (simp [*]; done)), (by first | rfl | (simp; done) | (simp [*]; done)), H', ⟨Nat.le_refl _⟩, by repeat (first | exact Drawn0.refl _ | apply Drawn0.step)⟩
  case round =>
    clear H'
    obtain ⟨x1_1, x2_1, rfl, rfl, HA, HK1, ⟨m1, rfl⟩⟩ := hrel
    cases gk with
    | zero => exact absurd HA.out (by simp [bits_wide_uint64.l0])
    | succ k1 =>
      have H := HA.out
      clear HA
      simp only [bits_wide_uint64.l0] at H
      by_cases c1 : x2_1 = 0
      · rw [if_pos c1] at H
        have c1b0 : (x2_1 == 0) = true := beq_iff_eq.mpr c1
        have c1b1 : (x2_1 != 0) = false := bne_eq_false_iff_eq.mpr c1
        clear c1
        obtain rfl := Option.some.inj H
        go_wp2
        go_ret
        exact ⟨by first | rfl | (simp; done) | (simp [*]; done), by repeat (first | exact Drawn0.refl _ | apply Drawn0.step)⟩
      · rw [if_neg c1] at H
        have c1b0 : (x2_1 == 0) = false := beq_eq_false_iff_ne.mpr c1
        have c1b1 : (x2_1 != 0) = true := bne_iff_ne.mpr c1
        have H' := Aside0.mk H
        clear H
        go_wp2
        go_roundg k1
        case measure => have := HK1.out; omega
        case rel => exact ⟨(wrap64 (x1_1 + 1)), (x2_1 / 256), (by first | rfl | (simp; done) | (simp [*]; done)), (by first | rfl | (simp; done) | (simp [*]; done)), H', ⟨by have := HK1.out; omega⟩, by repeat (first | exact Drawn0.refl _ | apply Drawn0.step)⟩


theorem wide16 (w : World) : Calls Try.prog 56 #[] w fun e w' => e = .returned (.int .i64 2) ∧ Drawn0 w w' := bits_wide_uint16.calls 5 2 w (by decide +kernel)
theorem wide32 (w : World) : Calls Try.prog 55 #[] w fun e w' => e = .returned (.int .i64 4) ∧ Drawn0 w w' := bits_wide_uint32.calls 7 4 w (by decide +kernel)
theorem wide64 (w : World) : Calls Try.prog 54 #[] w fun e w' => e = .returned (.int .i64 8) ∧ Drawn0 w w' := bits_wide_uint64.calls 11 8 w (by decide +kernel)
end Go.Proofs.Ytbhnhbpamndldaa.Bits

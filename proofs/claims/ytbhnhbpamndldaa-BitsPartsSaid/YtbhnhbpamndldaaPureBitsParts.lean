/- Parts of a handle are what it was made of; the handle of its parts is the handle. Of every input, no condition: the pure statement behind the printed walk. -/
import Derived.Test.YtbhnhbpamndldaaPBitsPartsx1
import Derived.Test.YtbhnhbpamndldaaBitsMath
namespace Go.Proofs.Ytbhnhbpamndldaa.Pure
open Go.RowKit Go.Proofs.Ytbhnhbpamndldaa.Bits Go.Proofs.Ytbhnhbpamndldaa.PBitsParts Go.Proofs.YtbhnhbpamndldaaW.PrintWords Go.Proofs.YtbhnhbpamndldaaW.PrintLast
set_option linter.unusedVariables false
set_option linter.unusedSimpArgs false

theorem awake_ok : ferrymanlaw01_awake.f 20 = some true := by decide +kernel
theorem awake_ge (k : Nat) (h : 20 ≤ k) : ferrymanlaw01_awake.f k = some true := by
  obtain ⟨j, rfl⟩ := Nat.exists_eq_add_of_le h
  clear h
  induction j with
  | zero => exact awake_ok
  | succ j ih => exact ferrymanlaw01_awake.mono _ _ ih

theorem handle_is (p o g : Int) (hp : 0 ≤ p ∧ p < 65536) (ho : 0 ≤ o ∧ o < 65536) (hg : 0 ≤ g ∧ g < 4294967296) : bits_Handle.f p o g = some (p * 281474976710656 + o * 4294967296 + g) := by
  unfold bits_Handle.f
  rw [handle_or p o g hp ho hg]
theorem parts_is (h : Int) (hh : 0 ≤ h ∧ h < 18446744073709551616) : bits_Parts.f h = some (h / 281474976710656, h / 4294967296 % 65536, h % 4294967296) := by
  unfold bits_Parts.f
  have e1 : IntKind.u16.wrap (h / 281474976710656) = h / 281474976710656 := by rw [IntKind.wrap_u16]; omega
  rw [e1, IntKind.wrap_u16]
theorem BitsParts : ferrymanlaw01_BitsParts.Pure := by
  intro p o g h wp wo wg wh
  have hp := lit_u16 wp
  have ho := lit_u16 wo
  have hg := lit_u32 wg
  have hh := lit_u64 wh
  refine ⟨20, ?_⟩
  unfold ferrymanlaw01_BitsParts.f
  rw [handle_is p o g hp ho hg, Option.bind_some, parts_is _ (by omega), Option.bind_some, parts_is h hh, Option.bind_some]
  dsimp only
  rw [if_pos (by omega), if_pos (by omega), if_pos (by omega), handle_is _ _ _ (by omega) (by omega) (by omega), Option.bind_some, if_pos (by omega), awake_ok]
  rfl

end Go.Proofs.Ytbhnhbpamndldaa.Pure

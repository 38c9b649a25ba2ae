/- The handle of any parts, and the parts of any handle, are the document's. Of every input, no condition: the pure statement behind the printed walk. -/
import Derived.Test.YtbhnhbpamndldaaPBitsHandlesx1
import Derived.Test.YtbhnhbpamndldaaBitsMath
namespace Go.Proofs.Ytbhnhbpamndldaa.Pure
open Go.RowKit Go.Proofs.Ytbhnhbpamndldaa.Bits Go.Proofs.Ytbhnhbpamndldaa.PBitsHandles Go.Proofs.YtbhnhbpamndldaaW.PrintWords Go.Proofs.YtbhnhbpamndldaaW.PrintLast
set_option linter.unusedVariables false
set_option linter.unusedSimpArgs false

theorem awake_ok : ferrymanlaw01_awake.f 20 = some true := by decide +kernel
theorem awake_ge (k : Nat) (h : 20 ≤ k) : ferrymanlaw01_awake.f k = some true := by
  obtain ⟨j, rfl⟩ := Nat.exists_eq_add_of_le h
  clear h
  induction j with
  | zero => exact awake_ok
  | succ j ih => exact ferrymanlaw01_awake.mono _ _ ih

theorem parts_same (h : Int) (hh : 0 ≤ h ∧ h < 18446744073709551616) : bits_Parts.f h = ferrymanref01_Parts.f h := by
  unfold bits_Parts.f ferrymanref01_Parts.f
  have e0 : Int.tdiv h 4294967296 = h / 4294967296 := Int.tdiv_eq_ediv_of_nonneg hh.1
  have e1 : IntKind.u64.wrap (h / 4294967296) = h / 4294967296 := by rw [IntKind.wrap_u64]; omega
  have e2 : Int.tdiv (h / 4294967296) 65536 = h / 4294967296 / 65536 := Int.tdiv_eq_ediv_of_nonneg (by omega)
  have e3 : Int.tmod (h / 4294967296) 65536 = h / 4294967296 % 65536 := Int.tmod_eq_emod_of_nonneg (by omega)
  have e4 : Int.tmod h 4294967296 = h % 4294967296 := Int.tmod_eq_emod_of_nonneg hh.1
  rw [e0, e1, e2, e3, e4]
  simp only [IntKind.wrap_u64, IntKind.wrap_u16, Option.some.injEq, Prod.mk.injEq]
  refine ⟨?_, ?_, ?_⟩ <;> omega
theorem handle_same (p o g : Int) (hp : 0 ≤ p ∧ p < 65536) (ho : 0 ≤ o ∧ o < 65536) (hg : 0 ≤ g ∧ g < 4294967296) : bits_Handle.f p o g = ferrymanref01_Handle.f p o g := by
  unfold bits_Handle.f ferrymanref01_Handle.f
  rw [handle_or p o g hp ho hg]
  simp only [IntKind.wrap_u64, Option.some.injEq]
  omega
theorem BitsHandles : ferrymanlaw01_BitsHandles.Pure := by
  intro p o g h wp wo wg wh
  refine ⟨20, ?_⟩
  unfold ferrymanlaw01_BitsHandles.f
  rw [parts_same h (lit_u64 wh), handle_same p o g (lit_u16 wp) (lit_u16 wo) (lit_u32 wg), awake_ok]
  unfold ferrymanref01_Parts.f ferrymanref01_Handle.f
  simp only [Option.bind_some, if_true]

end Go.Proofs.Ytbhnhbpamndldaa.Pure

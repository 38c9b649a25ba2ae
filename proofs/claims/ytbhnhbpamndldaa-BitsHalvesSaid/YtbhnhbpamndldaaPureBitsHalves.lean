/- A number of 8 bytes is two of 4, the upper one first; one of 4 is two of 2. Of every input, no condition: the pure statement behind the printed walk. -/
import Derived.Test.YtbhnhbpamndldaaPBitsHalvesx1
import Derived.Test.YtbhnhbpamndldaaBitsMath
namespace Go.Proofs.Ytbhnhbpamndldaa.Pure
open Go.RowKit Go.Proofs.Ytbhnhbpamndldaa.Bits Go.Proofs.Ytbhnhbpamndldaa.PBitsHalves Go.Proofs.YtbhnhbpamndldaaW.PrintWords Go.Proofs.YtbhnhbpamndldaaW.PrintLast
set_option linter.unusedVariables false
set_option linter.unusedSimpArgs false

theorem awake_ok : ferrymanlaw01_awake.f 20 = some true := by decide +kernel
theorem awake_ge (k : Nat) (h : 20 ≤ k) : ferrymanlaw01_awake.f k = some true := by
  obtain ⟨j, rfl⟩ := Nat.exists_eq_add_of_le h
  clear h
  induction j with
  | zero => exact awake_ok
  | succ j ih => exact ferrymanlaw01_awake.mono _ _ ih

theorem get_yes64 (l : List Int) (a : Nat) (hb : IsBytes l) (h : a + 8 ≤ l.length) : bits_Get64.f l (a : Int) = some (beNum ((l.drop a).take 8), true) := by
  unfold bits_Get64.f getF
  rw [if_pos hb, if_pos ⟨by omega, by omega⟩, Int.toNat_natCast]
theorem get_no64 (l : List Int) (a : Int) (hb : IsBytes l) (h : a < 0 ∨ l.length < a + 8) : bits_Get64.f l a = some (0, false) := by
  unfold bits_Get64.f getF
  rw [if_pos hb, if_neg (by omega)]
theorem get_yes32 (l : List Int) (a : Nat) (hb : IsBytes l) (h : a + 4 ≤ l.length) : bits_Get32.f l (a : Int) = some (beNum ((l.drop a).take 4), true) := by
  unfold bits_Get32.f getF
  rw [if_pos hb, if_pos ⟨by omega, by omega⟩, Int.toNat_natCast]
theorem get_yes16 (l : List Int) (a : Nat) (hb : IsBytes l) (h : a + 2 ≤ l.length) : bits_Get16.f l (a : Int) = some (beNum ((l.drop a).take 2), true) := by
  unfold bits_Get16.f getF
  rw [if_pos hb, if_pos ⟨by omega, by omega⟩, Int.toNat_natCast]
theorem eight (l : List Int) (h : 8 ≤ l.length) : ∃ a b c d e f g i r, l = a :: b :: c :: d :: e :: f :: g :: i :: r := by
  match l, h with
  | a :: b :: c :: d :: e :: f :: g :: i :: r, _ => exact ⟨a, b, c, d, e, f, g, i, r, rfl⟩
theorem halves (l : List Int) (a : Nat) (hb : IsBytes l) (h : a + 8 ≤ l.length) :
    beNum ((l.drop a).take 8) = beNum ((l.drop a).take 4) * 4294967296 + beNum ((l.drop (a + 4)).take 4) ∧ beNum ((l.drop a).take 4) = beNum ((l.drop a).take 2) * 65536 + beNum ((l.drop (a + 2)).take 2) ∧
    (0 ≤ beNum ((l.drop a).take 4) ∧ beNum ((l.drop a).take 4) < 4294967296) ∧ (0 ≤ beNum ((l.drop (a + 4)).take 4) ∧ beNum ((l.drop (a + 4)).take 4) < 4294967296) ∧
    (0 ≤ beNum ((l.drop a).take 2) ∧ beNum ((l.drop a).take 2) < 65536) ∧ (0 ≤ beNum ((l.drop (a + 2)).take 2) ∧ beNum ((l.drop (a + 2)).take 2) < 65536) := by
  have hm : IsBytes (l.drop a) := fun b hb' => hb b (List.mem_of_mem_drop hb')
  rw [show l.drop (a + 4) = (l.drop a).drop 4 by rw [List.drop_drop], show l.drop (a + 2) = (l.drop a).drop 2 by rw [List.drop_drop]]
  obtain ⟨b0, b1, b2, b3, b4, b5, b6, b7, r, e⟩ := eight (l.drop a) (by rw [List.length_drop]; omega)
  rw [e] at hm ⊢
  have h0 := hm b0 (by simp)
  have h1 := hm b1 (by simp)
  have h2 := hm b2 (by simp)
  have h3 := hm b3 (by simp)
  have h4 := hm b4 (by simp)
  have h5 := hm b5 (by simp)
  have h6 := hm b6 (by simp)
  have h7 := hm b7 (by simp)
  simp only [List.take_succ_cons, List.take_zero, List.drop_succ_cons, List.drop_zero, beNum, List.foldl]
  refine ⟨by omega, by omega, ⟨by omega, by omega⟩, ⟨by omega, by omega⟩, ⟨by omega, by omega⟩, ⟨by omega, by omega⟩⟩
theorem BitsHalves : ferrymanlaw01_BitsHalves.Pure := by
  intro l a _ hm hw wa
  have hb := isBytes_of hw
  have ha := lit_i64 wa
  refine ⟨21, ?_⟩
  have skip : ferrymanlaw01_BitsHalves.j0 21 l a true = some true := by
    simp only [ferrymanlaw01_BitsHalves.j0]
    rw [if_pos trivial, awake_ok]
    rfl
  unfold ferrymanlaw01_BitsHalves.f
  by_cases h1 : (l.length : Int) > 5000
  · rw [if_pos h1]
    exact skip
  · rw [if_neg h1]
    by_cases h2 : a > 1000000
    · rw [if_pos h2]
      exact skip
    · rw [if_neg h2, awake_ge 21 (by omega), Option.bind_some]
      simp only [ferrymanlaw01_BitsHalves.j0]
      rw [if_neg (by simp)]
      by_cases hin : 0 ≤ a ∧ a + 8 ≤ (l.length : Int)
      · obtain ⟨n, rfl⟩ := Int.eq_ofNat_of_zero_le hin.1
        rw [wrap64_id _ (by omega) (by omega), wrap64_id _ (by omega) (by omega)]
        have e4 : (n : Int) + 4 = ((n + 4 : Nat) : Int) := by omega
        have e2 : (n : Int) + 2 = ((n + 2 : Nat) : Int) := by omega
        rw [e4, e2, get_yes64 l n hb (by omega), get_yes32 l n hb (by omega), get_yes32 l (n + 4) hb (by omega), get_yes16 l n hb (by omega), get_yes16 l (n + 2) hb (by omega)]
        obtain ⟨k1, k2, k3, k4, k5, k6⟩ := halves l n hb (by omega)
        simp only [Option.bind_some, if_true, IntKind.wrap_u64]
        rw [if_pos (by omega)]
        simp only [Option.some.injEq, beq_iff_eq]
        omega
      · rw [get_no64 l a hb (by omega)]
        rfl

end Go.Proofs.Ytbhnhbpamndldaa.Pure

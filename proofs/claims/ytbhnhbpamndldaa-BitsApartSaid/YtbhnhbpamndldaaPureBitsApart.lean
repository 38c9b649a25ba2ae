/- Numbers at places that do not meet may be put in either row. Of every input, no condition: the pure statement behind the printed walk. -/
import Derived.Test.YtbhnhbpamndldaaPBitsApartx1
import Derived.Test.YtbhnhbpamndldaaBitsMath
namespace Go.Proofs.Ytbhnhbpamndldaa.Pure
open Go.RowKit Go.Proofs.Ytbhnhbpamndldaa.Bits Go.Proofs.Ytbhnhbpamndldaa.PBitsApart Go.Proofs.YtbhnhbpamndldaaW.PrintWords Go.Proofs.YtbhnhbpamndldaaW.PrintLast
set_option linter.unusedVariables false
set_option linter.unusedSimpArgs false

theorem awake_ok : ferrymanlaw01_awake.f 20 = some true := by decide +kernel
theorem awake_ge (k : Nat) (h : 20 ≤ k) : ferrymanlaw01_awake.f k = some true := by
  obtain ⟨j, rfl⟩ := Nat.exists_eq_add_of_le h
  clear h
  induction j with
  | zero => exact awake_ok
  | succ j ih => exact ferrymanlaw01_awake.mono _ _ ih

theorem bytes_loop (l : List Int) (hm : l.length ≤ 140737488351232) : ∀ (d k j : Nat), l.length - j = d → j ≤ l.length → d < k → ferrymanref01_Bytes.l0 k l l (j : Int) = some true := by
  intro d
  induction d with
  | zero =>
    intro k j hd hj hk
    obtain ⟨k, rfl⟩ : ∃ m, k = m + 1 := ⟨k - 1, by omega⟩
    simp only [ferrymanref01_Bytes.l0]
    rw [if_neg (by omega)]
  | succ d ih =>
    intro k j hd hj hk
    obtain ⟨k, rfl⟩ : ∃ m, k = m + 1 := ⟨k - 1, by omega⟩
    simp only [ferrymanref01_Bytes.l0]
    rw [if_pos (by omega), if_pos (by omega), if_pos (by omega), if_pos trivial, wrap64_id _ (by omega) (by omega)]
    exact ih k (j + 1) (by omega) (by omega) (by omega)
theorem bytes_same (l : List Int) (hm : l.length ≤ 140737488351232) (k : Nat) (hk : l.length < k) : ferrymanref01_Bytes.f k l l = some true := by
  unfold ferrymanref01_Bytes.f
  rw [if_pos rfl]
  exact bytes_loop l hm l.length k 0 (by omega) (by omega) hk

theorem own_is (l : List Int) (hm : l.length ≤ 140737488351232) : ferrymanlaw01_own.f l = some l := by
  unfold ferrymanlaw01_own.f
  rw [Option.bind_some, if_pos (by simp; omega)]
  rfl

theorem len64 (x : Int) : (be64 x).length = 8 := rfl
theorem len32 (x : Int) : (be32 x).length = 4 := rfl
theorem either (l : List Int) (a b n m : Int) (h : ¬ (0 ≤ a ∧ 0 ≤ b ∧ a < b + 4 ∧ b < a + 8 ∧ a < 100000 ∧ b < 100000)) (hl : l.length ≤ 5000) :
    (putF 4 (putF 8 l a (be64 n)).2 b (be32 m)).2 = (putF 8 (putF 4 l b (be32 m)).2 a (be64 n)).2 := by
  have e : ∀ (W : Nat) (l : List Int) (a : Int) (bs : List Int), (putF W l a bs).2 = if 0 ≤ a ∧ a + W ≤ (l.length : Int) then putL l a.toNat bs else l := fun W l a bs => by
    unfold putF
    split <;> rfl
  simp only [e]
  by_cases h1 : 0 ≤ a ∧ a + (8 : Nat) ≤ (l.length : Int)
  · by_cases h2 : 0 ≤ b ∧ b + (4 : Nat) ≤ (l.length : Int)
    · rw [if_pos h1, if_pos h2, if_pos (by rw [putL_length]; exact h2), if_pos (by rw [putL_length]; exact h1)]
      exact put_apart _ _ _ _ _ (by rw [len64]; omega) (by rw [len32]; omega) (by rw [len64, len32]; omega)
    · rw [if_pos h1, if_neg h2, if_neg (by rw [putL_length]; exact h2), if_pos h1]
  · by_cases h2 : 0 ≤ b ∧ b + (4 : Nat) ≤ (l.length : Int)
    · rw [if_neg h1, if_pos h2, if_neg (by rw [putL_length]; exact h1)]
    · rw [if_neg h1, if_neg h2, if_neg h1]
theorem BitsApart : ferrymanlaw01_BitsApart.Pure := by
  intro l a b n m _ hm hw wa wb wn wm
  have ha := lit_i64 wa
  have hb := lit_i64 wb
  have hn := lit_u64 wn
  have hmm := lit_u64 wm
  refine ⟨5100, ?_⟩
  have skip : ferrymanlaw01_BitsApart.j0 5100 l a b n m true = some true := by
    simp only [ferrymanlaw01_BitsApart.j0]
    rw [if_pos trivial, awake_ge _ (by omega)]
    rfl
  have go : ∀ (hl : l.length ≤ 5000), ¬ (0 ≤ a ∧ 0 ≤ b ∧ a < b + 4 ∧ b < a + 8 ∧ a < 100000 ∧ b < 100000) → ferrymanlaw01_BitsApart.j0 5100 l a b n m false = some true := fun hl h => by
    simp only [ferrymanlaw01_BitsApart.j0]
    rw [if_neg (by simp), own_is l (by omega)]
    simp only [Option.bind_some, bits_Put64.f, bits_Put32.f]
    rw [if_pos hn.1, if_pos (show (0 : Int) ≤ m % 4294967296 by omega)]
    simp only [Option.bind_some]
    rw [if_pos (show (0 : Int) ≤ m % 4294967296 by omega), if_pos hn.1]
    simp only [Option.bind_some]
    rw [either l a b n _ h hl, bytes_same _ (by rw [putF_len, putF_len]; omega) _ (by rw [putF_len, putF_len]; omega)]
    rfl
  unfold ferrymanlaw01_BitsApart.f
  by_cases h1 : (l.length : Int) > 5000
  · rw [if_pos h1]
    exact skip
  · rw [if_neg h1, awake_ge 5100 (by omega)]
    simp only [Option.bind_some, Bool.not_true]
    have hl : l.length ≤ 5000 := by omega
    by_cases c1 : a ≥ 0
    · by_cases c2 : b ≥ 0
      · rw [if_pos c1, if_pos c2]
        by_cases c3 : a < wrap64 (b + 4)
        · by_cases c4 : b < wrap64 (a + 8)
          · rw [if_pos c3, if_pos c4]
            by_cases c5 : a < 100000
            · by_cases c6 : b < 100000
              · rw [if_pos c5, if_pos c6]
                exact skip
              · rw [if_pos c5, if_neg c6]
                exact go hl (by omega)
            · rw [if_neg c5]
              exact go hl (by omega)
          · rw [if_pos c3, if_neg c4]
            refine go hl (fun h => c4 ?_)
            rw [wrap64_id _ (by omega) (by omega)]
            omega
        · rw [if_neg c3]
          refine go hl (fun h => c3 ?_)
          rw [wrap64_id _ (by omega) (by omega)]
          omega
      · rw [if_pos c1, if_neg c2]
        exact go hl (by omega)
    · rw [if_neg c1]
      exact go hl (by omega)

end Go.Proofs.Ytbhnhbpamndldaa.Pure

/- Apply of Make is the older value; what Apply takes Make tells. Of every input, no condition: the pure statement behind the walk. -/
import Derived.Test.YtbhnhbpamndldaaPDeltaBackx1
import Derived.Test.YtbhnhbpamndldaaDeltaMath
namespace Go.Proofs.Ytbhnhbpamndldaa.Pure
open Go.RowKit Go.Proofs.Ytbhnhbpamndldaa.Delta Go.Proofs.Ytbhnhbpamndldaa.PDeltaBack Go.Proofs.YtbhnhbpamndldaaW.PrintWords Go.Proofs.YtbhnhbpamndldaaW.PrintLast
set_option linter.unusedVariables false
set_option linter.unusedSimpArgs false

theorem awake_ok : ferrymanlaw07_awake.f = some true := by decide +kernel
theorem apply_f (a d : ByteArray) (h : d.size ≤ 4611686018427387904) : delta_Apply.f a d = some (applyF a d) := by
  unfold delta_Apply.f
  rw [if_pos h]
theorem nil_list : (⟨#[]⟩ : ByteArray).toList = [] := by rw [ByteArray.toList_eq]
theorem last (a d : ByteArray) (hd : d.size ≤ 5000) (k : Nat) : ferrymanlaw07_DeltaBack.j2 (k + 1) a d = some true := by
  simp only [ferrymanlaw07_DeltaBack.j2]
  rw [apply_f a d (by omega), Option.bind_some]
  by_cases h : (applyF a d).2 = 0
  · rw [if_pos h, (apply_ok a d h).1, Option.bind_some]
    simp
  · rw [if_neg h, apply_no a d h, nil_list]
    rfl
theorem DeltaBack : ferrymanlaw07_DeltaBack.Pure := by
  intro a b d ha hb hd
  refine ⟨5, ?_⟩
  have skip : ferrymanlaw07_DeltaBack.j0 5 a b d true = some true := by
    simp only [ferrymanlaw07_DeltaBack.j0]
    rw [if_pos trivial, awake_ok]
    rfl
  unfold ferrymanlaw07_DeltaBack.f
  by_cases c1 : (a.size : Int) > 5000
  · rw [if_pos c1]
    exact skip
  · rw [if_neg c1]
    by_cases c2 : (b.size : Int) > 5000
    · rw [if_pos c2]
      exact skip
    · rw [if_neg c2]
      by_cases c3 : (d.size : Int) > 5000
      · rw [if_pos c3]
        exact skip
      · rw [if_neg c3, awake_ok, Option.bind_some]
        have hd5 : d.size ≤ 5000 := by omega
        simp only [ferrymanlaw07_DeltaBack.j0, Bool.not_true]
        rw [if_neg (by simp)]
        by_cases hh : a.size ≤ 256 ∧ b.size ≤ 256
        · obtain ⟨h1, h2⟩ := hh
          have hm := make_size a b
          have fin : ferrymanlaw07_DeltaBack.j1 4 a b d (makeS a b) 0 false = some true := by
            simp only [ferrymanlaw07_DeltaBack.j1]
            rw [if_neg (by simp), if_pos trivial, apply_f a _ (by omega), apply_make a b h1 h2, Option.bind_some]
            dsimp only
            rw [if_pos rfl, if_pos rfl]
            exact last a d hd5 2
          rw [make_is a b h1 h2, Option.bind_some]
          dsimp only
          rw [if_pos (by omega), decide_eq_true (by omega : (b.size : Int) ≤ 256), if_neg (by decide), if_pos rfl]
          exact fin
        · have fin : ferrymanlaw07_DeltaBack.j1 4 a b d ⟨#[]⟩ 40 false = some true := by
            simp only [ferrymanlaw07_DeltaBack.j1]
            rw [if_neg (by simp), if_neg (by decide)]
            exact last a d hd5 2
          rw [make_large a b (by omega), Option.bind_some]
          dsimp only
          rw [nil_list]
          by_cases h1 : (a.size : Int) ≤ 256
          · rw [if_pos h1, decide_eq_false (by omega : ¬ (b.size : Int) ≤ 256), if_neg (by decide), if_neg (by decide)]
            exact fin
          · rw [if_neg h1, if_neg (by decide), if_neg (by decide)]
            exact fin
end Go.Proofs.Ytbhnhbpamndldaa.Pure

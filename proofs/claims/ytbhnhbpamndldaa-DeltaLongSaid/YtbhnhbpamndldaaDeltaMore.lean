/- Plain facts on deltas: the same counted over the whole values; chains. No program here. -/
import Derived.Test.YtbhnhbpamndldaaDeltaMath
namespace Go.Proofs.Ytbhnhbpamndldaa.Delta
open Go.RowKit Go.Proofs.YtbhnhbpamndldaaW.PrintWords
open Go.Proofs.Ytbhnhbpamndldaa.Bits
set_option linter.unusedVariables false
set_option linter.unusedSimpArgs false

/-! ### the same, counted over the whole values -/
theorem bt_extract (a : ByteArray) (p q i : Nat) (h : p + i < q) (hq : q ≤ a.size) : bt (a.extract p q) (i : Int) = bt a ((p + i : Nat) : Int) := by
  rw [bt_L, bt_L, L_extract, List.getElem?_drop, List.getElem?_take, if_pos h]
theorem IsSame.congr {f f' g g' : Nat → Int} {m n p : Nat} (h : IsSame f g m n p) (hf : ∀ i, i < m → f i = f' i) (hg : ∀ i, i < n → g i = g' i) : IsSame f' g' m n p := by
  obtain ⟨h1, h2, h3, h4⟩ := h
  exact ⟨h1, h2, fun i hi => by rw [← hf i (by omega), ← hg i (by omega)]; exact h3 i hi, fun hm hn => by rw [← hf p hm, ← hg p hn]; exact h4 hm hn⟩
theorem mid_is (a b : ByteArray) : IsSame (fun i => bt a ((a.size - 1 - i : Nat) : Int)) (fun i => bt b ((b.size - 1 - i : Nat) : Int)) (a.size - frontN a b) (b.size - frontN a b) (midS a b) := by
  have h := back_is (a.extract (frontN a b) a.size) (b.extract (frontN a b) b.size)
  have hb := mid_bounds a b
  rw [show backN (a.extract (frontN a b) a.size) (b.extract (frontN a b) b.size) = midS a b from rfl] at h
  have ea : (a.extract (frontN a b) a.size).size = a.size - frontN a b := by rw [ByteArray.size_extract, Nat.min_self]
  have eb : (b.extract (frontN a b) b.size).size = b.size - frontN a b := by rw [ByteArray.size_extract, Nat.min_self]
  rw [ea, eb] at h
  refine h.congr (fun i hi => ?_) (fun i hi => ?_)
  · rw [bt_extract a _ _ _ (by omega) (Nat.le_refl _), show frontN a b + (a.size - frontN a b - 1 - i) = a.size - 1 - i by omega]
  · rw [bt_extract b _ _ _ (by omega) (Nat.le_refl _), show frontN a b + (b.size - frontN a b - 1 - i) = b.size - 1 - i by omega]
theorem nums_join (xs ys : List Int) : strOfNums (xs ++ ys) = strOfNums xs ++ strOfNums ys := L_inj (by rw [L_append, L_nums, L_nums, L_nums, List.map_append])

/-! ### chains -/
/-- The deltas of values, one behind the other. -/
def deltas : ByteArray → List ByteArray → List ByteArray
  | _, [] => []
  | a, b :: l => makeS a b :: deltas b l
theorem chain : ∀ (a : ByteArray) (l : List ByteArray), a.size ≤ 256 → (∀ b ∈ l, b.size ≤ 256) → backF a (deltas a l) = (l.getLastD a, 0)
  | a, [], _, _ => rfl
  | a, b :: l, ha, h => by
    have hb := h b (by simp)
    rw [deltas, backF, apply_make a b ha hb, if_pos rfl]
    dsimp only
    rw [chain b l hb (fun c hc => h c (by simp [hc]))]
    cases l <;> rfl
theorem deltas_snoc : ∀ (a : ByteArray) (l : List ByteArray) (b : ByteArray), deltas a (l ++ [b]) = deltas a l ++ [makeS (l.getLastD a) b]
  | a, [], b => rfl
  | a, c :: l, b => by
    rw [List.cons_append, deltas, deltas, deltas_snoc c l b]
    cases l <;> rfl
theorem deltas_size : ∀ (a : ByteArray) (l : List ByteArray), (∀ b ∈ l, b.size ≤ 256) → ∀ d ∈ deltas a l, d.size ≤ 260
  | a, [], _, d, hd => by simp [deltas] at hd
  | a, b :: l, h, d, hd => by
    rw [deltas, List.mem_cons] at hd
    rcases hd with rfl | hd
    · have := make_size a b
      have := h b (by simp)
      omega
    · exact deltas_size b l (fun c hc => h c (by simp [hc])) d hd
theorem deltas_length : ∀ (a : ByteArray) (l : List ByteArray), (deltas a l).length = l.length
  | a, [] => rfl
  | a, b :: l => by rw [deltas, List.length_cons, List.length_cons, deltas_length b l]
end Go.Proofs.Ytbhnhbpamndldaa.Delta

/- Plain facts on deltas: Apply of Make is the older value. No program here. -/
import Derived.Test.YtbhnhbpamndldaaDelta4
namespace Go.Proofs.Ytbhnhbpamndldaa.Delta
open Go.RowKit Go.Proofs.YtbhnhbpamndldaaW.PrintWords
open Go.Proofs.Ytbhnhbpamndldaa.Bits
set_option linter.unusedVariables false
set_option linter.unusedSimpArgs false

/-- A string's bytes. -/
def L (s : ByteArray) : List UInt8 := s.data.toList
theorem L_length (s : ByteArray) : (L s).length = s.size := Array.length_toList
theorem L_inj {a b : ByteArray} (h : L a = L b) : a = b := by
  cases a
  cases b
  simp only [L] at h
  simp only [ByteArray.mk.injEq]
  exact Array.toList_inj.1 h
theorem L_append (a b : ByteArray) : L (a ++ b) = L a ++ L b := by simp [L, ByteArray.data_append]
theorem L_extract (a : ByteArray) (i j : Nat) : L (a.extract i j) = ((L a).take j).drop i := by
  simp only [L, ByteArray.data_extract]
  rw [Array.toList_extract, List.extract_eq_take_drop, List.drop_take]
theorem L_nums (xs : List Int) : L (strOfNums xs) = xs.map fun n => UInt8.ofNat n.toNat := by simp [L, strOfNums]
theorem bt_L (s : ByteArray) (i : Nat) : bt s (i : Int) = (((L s)[i]?.getD 0).toNat : Int) := by
  unfold bt
  rw [Int.toNat_natCast]
  by_cases h : i < s.size
  · rw [dif_pos h]
    have h2 : i < s.data.size := h
    simp only [L, Array.getElem?_toList, Array.getElem?_eq_getElem h2, Option.getD_some]
    rfl
  · rw [dif_neg h]
    have h2 : ¬ i < s.data.size := h
    simp only [L, Array.getElem?_toList, Array.getElem?_eq_none (by omega : s.data.size ≤ i)]
    rfl
theorem bt_eq_iff (a b : ByteArray) (i j : Nat) : bt a (i : Int) = bt b (j : Int) ↔ (L a)[i]?.getD 0 = (L b)[j]?.getD 0 := by
  rw [bt_L, bt_L]
  constructor
  · intro h
    exact UInt8.toNat_inj.1 (by omega)
  · intro h
    rw [h]

theorem front_take {a b : ByteArray} {p : Nat} (h : IsSame (fun i => bt a (i : Int)) (fun i => bt b (i : Int)) a.size b.size p) : (L a).take p = (L b).take p := by
  obtain ⟨h1, h2, h3, _⟩ := h
  apply List.ext_getElem?
  intro i
  rw [List.getElem?_take, List.getElem?_take]
  by_cases hi : i < p
  · rw [if_pos hi, if_pos hi]
    have e := (bt_eq_iff a b i i).1 (h3 i hi)
    rw [List.getElem?_eq_getElem (by rw [L_length]; omega), List.getElem?_eq_getElem (by rw [L_length]; omega)] at e ⊢
    rw [Option.getD_some, Option.getD_some] at e
    rw [e]
  · rw [if_neg hi, if_neg hi]
theorem back_drop {a b : ByteArray} {s : Nat} (h : IsSame (fun i => bt a ((a.size - 1 - i : Nat) : Int)) (fun i => bt b ((b.size - 1 - i : Nat) : Int)) a.size b.size s) : (L a).drop (a.size - s) = (L b).drop (b.size - s) := by
  obtain ⟨h1, h2, h3, _⟩ := h
  apply List.ext_getElem?
  intro i
  rw [List.getElem?_drop, List.getElem?_drop]
  by_cases hi : i < s
  · have e := (bt_eq_iff a b _ _).1 (h3 (s - 1 - i) (by omega))
    rw [show a.size - 1 - (s - 1 - i) = a.size - s + i by omega, show b.size - 1 - (s - 1 - i) = b.size - s + i by omega] at e
    rw [List.getElem?_eq_getElem (by rw [L_length]; omega), List.getElem?_eq_getElem (by rw [L_length]; omega)] at e ⊢
    rw [Option.getD_some, Option.getD_some] at e
    rw [e]
  · rw [List.getElem?_eq_none (by rw [L_length]; omega), List.getElem?_eq_none (by rw [L_length]; omega)]

/-! ### the numbers of a delta -/
theorem be16_nat (p : Nat) (h : p < 65536) : (be16 (p : Int)).map (fun n => UInt8.ofNat n.toNat) = [UInt8.ofNat (p / 256), UInt8.ofNat (p % 256)] := by
  simp only [be16, List.map_cons, List.map_nil, List.cons.injEq, and_true]
  refine ⟨?_, ?_⟩
  · rw [show ((p : Int) / 256 % 256).toNat = p / 256 by omega]
  · rw [show ((p : Int) % 256).toNat = p % 256 by omega]
/-- The delta of two values. -/
def deltaS (p s : Nat) (m : ByteArray) : ByteArray := strOfNums (be16 p ++ be16 s) ++ m
theorem L_delta (p s : Nat) (m : ByteArray) (hp : p < 65536) (hs : s < 65536) : L (deltaS p s m) = [UInt8.ofNat (p / 256), UInt8.ofNat (p % 256), UInt8.ofNat (s / 256), UInt8.ofNat (s % 256)] ++ L m := by
  rw [deltaS, L_append, L_nums, List.map_append, be16_nat p hp, be16_nat s hs]
  rfl
theorem delta_size (p s : Nat) (m : ByteArray) : (deltaS p s m).size = 4 + m.size := by
  rw [deltaS, ByteArray.size_append]
  rfl
theorem ofNat_toNat (n : Nat) (h : n < 256) : (UInt8.ofNat n).toNat = n := by
  rw [UInt8.toNat_ofNat']
  omega
theorem numAt_delta (p s : Nat) (m : ByteArray) (hp : p < 65536) (hs : s < 65536) : numAt (deltaS p s m) 0 = p ∧ numAt (deltaS p s m) 2 = s := by
  unfold numAt
  rw [show (0 : Int) = ((0 : Nat) : Int) from rfl, show (2 : Int) = ((2 : Nat) : Int) from rfl, show ((0 : Nat) : Int) + 1 = ((1 : Nat) : Int) from rfl, show ((2 : Nat) : Int) + 1 = ((3 : Nat) : Int) from rfl]
  rw [bt_L, bt_L, bt_L, bt_L, L_delta p s m hp hs]
  simp only [List.cons_append, List.nil_append, List.getElem?_cons_zero, List.getElem?_cons_succ, Option.getD_some]
  rw [ofNat_toNat _ (by omega), ofNat_toNat _ (by omega), ofNat_toNat _ (by omega), ofNat_toNat _ (by omega)]
  omega

/-! ### Make, and Apply of Make -/
def makeS (a b : ByteArray) : ByteArray := deltaS (frontN a b) (midS a b) (b.extract (frontN a b) (b.size - midS a b))
theorem make_is (a b : ByteArray) (ha : a.size ≤ 256) (hb : b.size ≤ 256) : delta_Make.f a b = some (makeS a b, 0) := by
  unfold delta_Make.f
  rw [if_neg (by omega)]
  rfl
theorem make_large (a b : ByteArray) (h : a.size > 256 ∨ b.size > 256) : delta_Make.f a b = some (⟨#[]⟩, 40) := by
  unfold delta_Make.f
  rw [if_pos h]
theorem front_is (a b : ByteArray) : IsSame (fun i => bt a (i : Int)) (fun i => bt b (i : Int)) a.size b.size (frontN a b) := lcp_is _ _ _ _
theorem back_is (a b : ByteArray) : IsSame (fun i => bt a ((a.size - 1 - i : Nat) : Int)) (fun i => bt b ((b.size - 1 - i : Nat) : Int)) a.size b.size (backN a b) := lcp_is _ _ _ _
theorem mid_bounds (a b : ByteArray) : frontN a b ≤ a.size ∧ frontN a b ≤ b.size ∧ midS a b ≤ a.size - frontN a b ∧ midS a b ≤ b.size - frontN a b := by
  have h1 := front_is a b
  have h2 := back_is (a.extract (frontN a b) a.size) (b.extract (frontN a b) b.size)
  refine ⟨h1.1, h1.2.1, ?_, ?_⟩
  · have := h2.1
    rw [ByteArray.size_extract, Nat.min_self] at this
    exact this
  · have := h2.2.1
    rw [ByteArray.size_extract, Nat.min_self] at this
    exact this
theorem older_is (a b : ByteArray) : olderS a (makeS a b) (frontN a b) (midS a b) = b ∨ ¬ (a.size ≤ 256 ∧ b.size ≤ 256) := by
  by_cases hh : a.size ≤ 256 ∧ b.size ≤ 256
  · left
    obtain ⟨ha, hb⟩ := hh
    obtain ⟨b1, b2, b3, b4⟩ := mid_bounds a b
    have f := front_take (front_is a b)
    have g := back_drop (back_is (a.extract (frontN a b) a.size) (b.extract (frontN a b) b.size))
    rw [show backN (a.extract (frontN a b) a.size) (b.extract (frontN a b) b.size) = midS a b from rfl] at g
    apply L_inj
    have hsz : (makeS a b).size = 4 + (b.extract (frontN a b) (b.size - midS a b)).size := delta_size _ _ _
    generalize hp : frontN a b = p at *
    generalize hs : midS a b = s at *
    simp only [ByteArray.size_extract, Nat.min_self, L_extract] at g
    rw [show (L a).take a.size = L a from List.take_of_length_le (by rw [L_length]; exact Nat.le_refl _), show (L b).take b.size = L b from List.take_of_length_le (by rw [L_length]; exact Nat.le_refl _), List.drop_drop, List.drop_drop,
      show p + (a.size - p - s) = a.size - s by omega, show p + (b.size - p - s) = b.size - s by omega] at g
    have hd : L ((makeS a b).extract 4 (makeS a b).size) = ((L b).take (b.size - s)).drop p := by
      rw [L_extract, show (L (makeS a b)).take (makeS a b).size = L (makeS a b) from List.take_of_length_le (by rw [L_length]; exact Nat.le_refl _)]
      unfold makeS
      rw [hp, hs, L_delta p s _ (by omega) (by omega), L_extract]
      rfl
    unfold olderS
    rw [L_append, L_append, hd, L_extract, L_extract, show (L a).take a.size = L a from List.take_of_length_le (by rw [L_length]; exact Nat.le_refl _), List.drop_zero, f, g]
    have e1 : (L b).take p = ((L b).take (b.size - s)).take p := by rw [List.take_take, Nat.min_eq_left (by omega)]
    rw [e1, List.take_append_drop, List.take_append_drop]
  · exact .inr hh
theorem apply_make (a b : ByteArray) (ha : a.size ≤ 256) (hb : b.size ≤ 256) : applyF a (makeS a b) = (b, 0) := by
  obtain ⟨b1, b2, b3, b4⟩ := mid_bounds a b
  obtain ⟨n0, n2⟩ := numAt_delta (frontN a b) (midS a b) (b.extract (frontN a b) (b.size - midS a b)) (by omega) (by omega)
  have ho := (older_is a b).resolve_right (fun h => h ⟨ha, hb⟩)
  have hsz : (makeS a b).size = 4 + (b.extract (frontN a b) (b.size - midS a b)).size := delta_size _ _ _
  unfold applyF
  rw [if_neg (by omega), if_neg (by omega)]
  rw [show numAt (makeS a b) 0 = frontN a b from n0, show numAt (makeS a b) 2 = midS a b from n2, if_neg (by omega), ho, make_is a b ha hb]
  dsimp only
  rw [if_pos ⟨rfl, rfl⟩]
theorem make_size (a b : ByteArray) : (makeS a b).size ≤ 4 + b.size := by
  have hsz : (makeS a b).size = 4 + (b.extract (frontN a b) (b.size - midS a b)).size := delta_size _ _ _
  rw [hsz, ByteArray.size_extract]
  omega
/-- What Apply takes Make tells. -/
theorem apply_ok (a d : ByteArray) (h : (applyF a d).2 = 0) : delta_Make.f a (applyF a d).1 = some (d, 0) ∧ (applyF a d).1.size ≤ 256 ∧ a.size ≤ 256 := by
  unfold applyF at h ⊢
  by_cases c1 : a.size > 256
  · rw [if_pos c1] at h
    cases h
  · rw [if_neg c1] at h ⊢
    by_cases c2 : d.size < 4
    · rw [if_pos c2] at h
      cases h
    · rw [if_neg c2] at h ⊢
      by_cases c3 : a.size < numAt d 0 + numAt d 2
      · rw [if_pos c3] at h
        cases h
      · rw [if_neg c3] at h ⊢
        generalize ho : olderS a d (numAt d 0) (numAt d 2) = o at *
        by_cases c4 : o.size > 256
        · rw [make_large a o (.inr c4)] at h
          dsimp only at h
          rw [if_neg (by intro hh; exact absurd hh.1 (by decide))] at h
          cases h
        · rw [make_is a o (by omega) (by omega)] at h ⊢
          dsimp only at h ⊢
          by_cases c5 : (0 : Int) = 0 ∧ makeS a o = d
          · rw [if_pos c5]
            exact ⟨by rw [make_is a o (by omega) (by omega), c5.2], by show o.size ≤ 256; omega, by omega⟩
          · rw [if_neg c5] at h
            cases h
/-- What Apply refuses is empty. -/
theorem apply_no (a d : ByteArray) (h : (applyF a d).2 ≠ 0) : (applyF a d).1 = ⟨#[]⟩ := by
  unfold applyF at h ⊢
  split at h
  · rename_i h1
    rw [if_pos h1]
  · split at h
    · rename_i h1 h2
      rw [if_neg h1, if_pos h2]
    · rename_i h1 h2
      rw [if_neg h1, if_neg h2]
      split at h
      · rename_i h3
        rw [if_pos h3]
      · rename_i h3
        rw [if_neg h3]
        generalize delta_Make.f a (olderS a d (numAt d 0) (numAt d 2)) = r at *
        cases r with
        | none => rfl
        | some r =>
          dsimp only at h ⊢
          split at h
          · exact absurd rfl h
          · rename_i h4
            rw [if_neg h4]
end Go.Proofs.Ytbhnhbpamndldaa.Delta

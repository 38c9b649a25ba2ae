/- DeltaLong: the plain facts, and the law of every input. -/
import Derived.Test.YtbhnhbpamndldaaLongWalk
namespace Go.Proofs.Ytbhnhbpamndldaa.Long
open Go.RowKit Go.Proofs.YtbhnhbpamndldaaW.PrintWords Go.Proofs.YtbhnhbpamndldaaW.PrintLast Go.Proofs.YtbhnhbpamndldaaW.PrintMore
open Go.Proofs.Ytbhnhbpamndldaa.Delta Go.Proofs.Ytbhnhbpamndldaa.Bits
set_option linter.unusedVariables false
set_option linter.unusedSimpArgs false

theorem make_self (b : ByteArray) : (makeS b b).size = 4 := by
  have h : frontN b b = b.size := (front_is b b).unique ⟨Nat.le_refl _, Nat.le_refl _, fun _ _ => rfl, fun h => absurd h (Nat.lt_irrefl _)⟩
  have hs : (makeS b b).size = 4 + (b.extract (frontN b b) (b.size - midS b b)).size := delta_size _ _ _
  rw [hs, h, ByteArray.size_extract]
  omega
theorem flip_size (b : ByteArray) (k : Nat) (z : Int) : (strOfNums (flipL b k z)).size = b.size := by
  have h := congrArg List.length (L_nums (flipL b k z))
  rw [L_length, List.length_map, flipL_length] at h
  exact h
theorem flip_bt (b : ByteArray) (k : Nat) (z : Int) (hz : 0 ≤ z ∧ z < 256) (j : Nat) (hj : j < b.size) : bt (strOfNums (flipL b k z)) (j : Int) = if j = k then z else bt b (j : Int) := by
  have e : (flipL b k z)[j]? = some (if j = k then z else bt b (j : Int)) := by simp [flipL, hj]
  rw [bt_L, L_nums, List.getElem?_map, e]
  have hb := bt_range b (j : Int)
  have hn : ∀ n : Int, 0 ≤ n ∧ n < 256 → ((UInt8.ofNat n.toNat).toNat : Int) = n := fun n h => by
    rw [ofNat_toNat _ (by omega)]
    omega
  by_cases h : j = k
  · rw [if_pos h]
    exact hn z hz
  · rw [if_neg h]
    exact hn _ (by omega)
theorem flip_make (b : ByteArray) (k : Nat) (z : Int) (hk : k < b.size) (hb : b.size ≤ 256) (hz : 0 ≤ z ∧ z < 256) (hne : z ≠ bt b (k : Int)) :
    (makeS (strOfNums (flipL b k z)) b).size = 5 ∧ bt (makeS (strOfNums (flipL b k z)) b) 4 = bt b (k : Int) := by
  have hc := flip_size b k z
  have hf := flip_bt b k z hz
  have hm := mid_is (strOfNums (flipL b k z)) b
  have e1 : frontN (strOfNums (flipL b k z)) b = k := by
    refine (front_is _ _).unique ⟨by omega, by omega, fun i hi => ?_, fun _ _ => ?_⟩
    · have := hf i (by omega)
      rw [if_neg (by omega)] at this
      exact this
    · have := hf k hk
      rw [if_pos rfl] at this
      dsimp only
      rw [this]
      exact hne
  rw [e1, hc] at hm
  have e2 : midS (strOfNums (flipL b k z)) b = b.size - 1 - k := by
    refine hm.unique ⟨by omega, by omega, fun i hi => ?_, fun _ _ => ?_⟩
    · have := hf (b.size - 1 - i) (by omega)
      rw [if_neg (by omega)] at this
      exact this
    · have := hf k hk
      rw [if_pos rfl] at this
      dsimp only
      rw [show b.size - 1 - (b.size - 1 - k) = k by omega, this]
      exact hne
  have e3 : makeS (strOfNums (flipL b k z)) b = deltaS k (b.size - 1 - k) (b.extract k (k + 1)) := by
    unfold makeS
    rw [e1, e2, show b.size - (b.size - 1 - k) = k + 1 by omega]
  rw [e3]
  refine ⟨by rw [delta_size, ByteArray.size_extract]; omega, ?_⟩
  rw [show (4 : Int) = ((4 : Nat) : Int) from rfl, bt_L, bt_L, L_delta _ _ _ (by omega) (by omega), L_extract]
  simp only [List.cons_append, List.nil_append, List.getElem?_cons_succ, List.getElem?_drop, List.getElem?_take]
  rw [if_pos (by omega), Nat.add_zero]
theorem xor_ne (v y : Int) (hv : 0 ≤ v ∧ v < 256) (hy : 0 ≤ y ∧ y < 256) (h : y ≠ 0) : (0 ≤ Go.bits BinOp.xor IntKind.u8 v y ∧ Go.bits BinOp.xor IntKind.u8 v y < 256) ∧ Go.bits BinOp.xor IntKind.u8 v y ≠ v := by
  have e : Go.bits BinOp.xor IntKind.u8 v y = (((BitVec.ofInt 8 v) ^^^ (BitVec.ofInt 8 y)).toNat : Int) := by
    have hl := ((BitVec.ofInt 8 v) ^^^ (BitVec.ofInt 8 y)).isLt
    show IntKind.u8.wrap (((BitVec.ofInt 8 v) ^^^ (BitVec.ofInt 8 y)).toNat : Int) = _
    generalize ((BitVec.ofInt 8 v) ^^^ (BitVec.ofInt 8 y)).toNat = n at *
    rw [IntKind.wrap_u8]
    omega
  rw [e]
  have hl := ((BitVec.ofInt 8 v) ^^^ (BitVec.ofInt 8 y)).isLt
  refine ⟨⟨by omega, by omega⟩, fun hq => h ?_⟩
  have h1 : (BitVec.ofInt 8 v).toNat = v.toNat := by
    rw [BitVec.toNat_ofInt]
    omega
  have h2 : (BitVec.ofInt 8 v) ^^^ (BitVec.ofInt 8 y) = BitVec.ofInt 8 v := BitVec.eq_of_toNat_eq (by rw [h1]; omega)
  have h3 : BitVec.ofInt 8 y = 0#8 := by
    have := congrArg (fun t => BitVec.ofInt 8 v ^^^ t) h2
    simpa [← BitVec.xor_assoc] using this
  have h4 : (BitVec.ofInt 8 y).toNat = y.toNat := by
    rw [BitVec.toNat_ofInt]
    omega
  rw [h3] at h4
  simp at h4
  omega
theorem at_ok (x : Int) (n : Nat) (hn : 0 < n) (hn2 : n ≤ 256) : ∃ k : Nat, k < n ∧ wrap64 ((IntKind.u64.wrap x).tmod (n : Int)) = (k : Int) := by
  have h0 : 0 ≤ IntKind.u64.wrap x := by
    rw [IntKind.wrap_u64]
    omega
  refine ⟨((IntKind.u64.wrap x).tmod (n : Int)).toNat, ?_, ?_⟩
  · rw [Int.tmod_eq_emod_of_nonneg h0]
    have := Int.emod_lt_of_pos (IntKind.u64.wrap x) (show (0 : Int) < n by omega)
    omega
  · rw [Int.tmod_eq_emod_of_nonneg h0]
    have h1 := Int.emod_lt_of_pos (IntKind.u64.wrap x) (show (0 : Int) < n by omega)
    have h2 := Int.emod_nonneg (IntKind.u64.wrap x) (show (n : Int) ≠ 0 by omega)
    generalize IntKind.u64.wrap x % (n : Int) = m at *
    unfold wrap64
    omega
theorem long (a b : ByteArray) (x y : Int) (w : World) (hy : 0 ≤ y ∧ y < 256) :
    Calls Try.prog 14 #[.string a, .string b, .int .i64 x, .int .u8 y] w fun e w' => e = .returned (.bool true) ∧ Below w.heap.size w w' := by
  by_cases h : a.size > 256 ∨ b.size > 256
  · exact long_big a b x y w h
  · have m1 := make_is a b (by omega) (by omega)
    have m2 := make_is b b (by omega) (by omega)
    have z1 := make_size a b
    have z2 := make_self b
    by_cases h2 : b.size = 0 ∨ y = 0
    · exact long_skip a b x y w (by omega) (by omega) _ _ m1 m2 z1 z2 h2
    · obtain ⟨k, hk, hkx⟩ := at_ok x b.size (by omega) (by omega)
      have hv := bt_range b (k : Int)
      obtain ⟨r, hne⟩ := xor_ne (bt b (k : Int)) y (by omega) hy (by omega)
      obtain ⟨s1, s2⟩ := flip_make b k _ hk (by omega) r hne
      exact long_main a b x y w (by omega) (by omega) _ _ m1 m2 z1 z2 (by omega) (by omega) k hk hkx _ rfl _ (make_is _ b (by rw [flip_size]; omega) (by omega)) s1 s2
end Go.Proofs.Ytbhnhbpamndldaa.Long

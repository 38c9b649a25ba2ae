/- What is put into any bytes, and got of them, at any place, of each width, is the document's. Of every input, no condition: the pure statement behind the printed walk. -/
import Derived.Test.YtbhnhbpamndldaaPBitsTellsx2
import Derived.Test.YtbhnhbpamndldaaBitsMath
namespace Go.Proofs.Ytbhnhbpamndldaa.Pure
open Go.RowKit Go.Proofs.Ytbhnhbpamndldaa.Bits Go.Proofs.Ytbhnhbpamndldaa.PBitsTells Go.Proofs.YtbhnhbpamndldaaW.PrintWords Go.Proofs.YtbhnhbpamndldaaW.PrintLast
set_option linter.unusedVariables false
set_option linter.unusedSimpArgs false

theorem awake_ok : ferrymanlaw01_awake.f 20 = some true := by decide +kernel
theorem awake_ge (k : Nat) (h : 20 ≤ k) : ferrymanlaw01_awake.f k = some true := by
  obtain ⟨j, rfl⟩ := Nat.exists_eq_add_of_le h
  clear h
  induction j with
  | zero => exact awake_ok
  | succ j ih => exact ferrymanlaw01_awake.mono _ _ ih

theorem bytes_loop (l : List Int) (hm : l.length ≤ 140737488351232) : ∀ (d k j : Nat), l.length - j = d → j ≤ l.length → d < k → ferrymanref01_Bytes.l0 k l l (j : Int) = some true := by
  intro d
  induction d with
  | zero =>
    intro k j hd hj hk
    obtain ⟨k, rfl⟩ : ∃ m, k = m + 1 := ⟨k - 1, by omega⟩
    simp only [ferrymanref01_Bytes.l0]
    rw [if_neg (by omega)]
  | succ d ih =>
    intro k j hd hj hk
    obtain ⟨k, rfl⟩ : ∃ m, k = m + 1 := ⟨k - 1, by omega⟩
    simp only [ferrymanref01_Bytes.l0]
    rw [if_pos (by omega), if_pos (by omega), if_pos (by omega), if_pos trivial, wrap64_id _ (by omega) (by omega)]
    exact ih k (j + 1) (by omega) (by omega) (by omega)
theorem bytes_same (l : List Int) (hm : l.length ≤ 140737488351232) (k : Nat) (hk : l.length < k) : ferrymanref01_Bytes.f k l l = some true := by
  unfold ferrymanref01_Bytes.f
  rw [if_pos rfl]
  exact bytes_loop l hm l.length k 0 (by omega) (by omega) hk

theorem own_is (l : List Int) (hm : l.length ≤ 140737488351232) : ferrymanlaw01_own.f l = some l := by
  unfold ferrymanlaw01_own.f
  rw [Option.bind_some, if_pos (by simp; omega)]
  rfl

/-- The reference's loop: from the last byte on, downwards, by division. -/
def down (l : List Int) (a : Nat) : Nat → Int → List Int
  | 0, _ => l
  | i + 1, n => down (l.set (a + i) (n % 256)) a i (n / 256)
theorem put_loop (a : Nat) : ∀ (i k : Nat) (l : List Int) (n : Int), l.length ≤ 5000 → a + i ≤ l.length → 0 ≤ n → n < 18446744073709551616 → i < k →
    ferrymanref01_Put.l0 k l (a : Int) n ((i : Int) - 1) = some (true, down l a i n)
  | 0, k, l, n, _, _, _, _, hk => by
    obtain ⟨k, rfl⟩ : ∃ m, k = m + 1 := ⟨k - 1, by omega⟩
    simp only [ferrymanref01_Put.l0]
    rw [if_neg (by omega)]
    rfl
  | i + 1, k, l, n, hl, ha, h0, h1, hk => by
    obtain ⟨k, rfl⟩ : ∃ m, k = m + 1 := ⟨k - 1, by omega⟩
    simp only [ferrymanref01_Put.l0]
    have e : ((i + 1 : Nat) : Int) - 1 = (i : Int) := by omega
    rw [e, if_pos (by omega), wrap64_id _ (by omega) (by omega), if_pos (by omega), if_pos (by omega), wrap64_id _ (by omega) (by omega)]
    have e1 : Int.tmod n 256 % 256 = n % 256 := by rw [Int.tmod_eq_emod_of_nonneg h0]; omega
    have e2 : IntKind.u64.wrap (Int.tdiv n 256) = n / 256 := by rw [Int.tdiv_eq_ediv_of_nonneg h0, IntKind.wrap_u64]; omega
    have e3 : ((a : Int) + (i : Int)).toNat = a + i := by omega
    rw [e1, e2, e3, put_loop a i k (l.set (a + i) (n % 256)) (n / 256) (by rw [List.length_set]; exact hl) (by rw [List.length_set]; omega) (by omega) (by omega) (by omega)]
    rfl
theorem down_put : ∀ (bs l : List Int) (a : Nat) (b : Int), a + bs.length < l.length → (putL l a bs).set (a + bs.length) b = putL l a (bs ++ [b])
  | [], l, a, b, h => rfl
  | c :: bs, l, a, b, h => by
    simp only [List.length_cons] at h
    simp only [putL, List.cons_append, List.length_cons]
    rw [← down_put bs (l.set a c) (a + 1) b (by rw [List.length_set]; omega)]
    congr 1
    omega
theorem set_put (b : Int) : ∀ (bs l : List Int) (a j : Nat), (putL (l.set j b) a bs) = if a ≤ j ∧ j < a + bs.length then putL l a bs else (putL l a bs).set j b
  | [], l, a, j => by rw [if_neg (by simp only [List.length_nil]; omega), putL, putL]
  | c :: bs, l, a, j => by
    simp only [putL, List.length_cons]
    by_cases h : j = a
    · subst h
      rw [if_pos ⟨by omega, by omega⟩, List.set_set]
    · rw [List.set_comm _ _ h, set_put b bs (l.set a c) (a + 1) j]
      by_cases h2 : a ≤ j ∧ j < a + (bs.length + 1)
      · rw [if_pos h2, if_pos (by omega)]
      · rw [if_neg h2, if_neg (by omega)]
def bl : Nat → Int → List Int
  | 0, _ => []
  | i + 1, n => bl i (n / 256) ++ [n % 256]
theorem bl_length : ∀ (i : Nat) (n : Int), (bl i n).length = i
  | 0, _ => rfl
  | i + 1, n => by rw [bl, List.length_append, bl_length i]; rfl
theorem down_bl (a : Nat) : ∀ (i : Nat) (l : List Int) (n : Int), a + i ≤ l.length → down l a i n = putL l a (bl i n)
  | 0, l, n, h => rfl
  | i + 1, l, n, h => by
    rw [down, down_bl a i _ _ (by rw [List.length_set]; omega), set_put, if_neg (by rw [bl_length]; omega), bl]
    have e := down_put (bl i (n / 256)) l a (n % 256) (by rw [bl_length]; omega)
    rw [bl_length] at e
    exact e
theorem bl2 (n : Int) : bl 2 n = be16 n := rfl
theorem bl4 (n : Int) (h : 0 ≤ n) : bl 4 n = be32 n := by
  have e2 : n / 256 / 256 = n / 65536 := by omega
  have e3 : n / 65536 / 256 = n / 16777216 := by omega
  simp only [bl, be32, e2, e3, List.nil_append, List.cons_append]
theorem bl8 (n : Int) (h : 0 ≤ n) : bl 8 n = be64 n := by
  have e2 : n / 256 / 256 = n / 65536 := by omega
  have e3 : n / 65536 / 256 = n / 16777216 := by omega
  have e4 : n / 16777216 / 256 = n / 4294967296 := by omega
  have e5 : n / 4294967296 / 256 = n / 1099511627776 := by omega
  have e6 : n / 1099511627776 / 256 = n / 281474976710656 := by omega
  have e7 : n / 281474976710656 / 256 = n / 72057594037927936 := by omega
  have e : bl 8 n = [n / 256 / 256 / 256 / 256 / 256 / 256 / 256 % 256, n / 256 / 256 / 256 / 256 / 256 / 256 % 256, n / 256 / 256 / 256 / 256 / 256 % 256, n / 256 / 256 / 256 / 256 % 256, n / 256 / 256 / 256 % 256, n / 256 / 256 % 256, n / 256 % 256, n % 256] := rfl
  rw [e, e2, e3, e4, e5, e6, e7]
  rfl
theorem ref_put (W : Nat) (bs : List Int) (l : List Int) (a n : Int) (hW : W ≤ 8) (hd : bl W n = bs) (hl : l.length ≤ 5000) (ha : -9223372036854775808 ≤ a ∧ a < 9223372036854775808) (hn : 0 ≤ n ∧ n < 18446744073709551616) (k : Nat) (hk : 10 < k) :
    ferrymanref01_Put.f k l a (W : Int) n = some (putF W l a bs) := by
  obtain ⟨k, rfl⟩ : ∃ m, k = m + 1 := ⟨k - 1, by omega⟩
  have no : ferrymanref01_Put.j0 (k + 1) l a (W : Int) n true = some (false, l) := by
    simp only [ferrymanref01_Put.j0]
    rw [if_pos trivial]
  unfold ferrymanref01_Put.f putF
  by_cases h1 : a < 0
  · rw [if_pos h1, no, if_neg (by omega)]
  · rw [if_neg h1]
    by_cases h2 : (l.length : Int) < (W : Int)
    · rw [if_pos h2, no, if_neg (by omega)]
    · rw [if_neg h2, wrap64_id _ (by omega) (by omega)]
      by_cases h3 : a > (l.length : Int) - (W : Int)
      · rw [decide_eq_true h3, no, if_neg (by omega)]
      · rw [decide_eq_false h3, if_pos (by omega)]
        obtain ⟨b, rfl⟩ := Int.eq_ofNat_of_zero_le (by omega : 0 ≤ a)
        simp only [ferrymanref01_Put.j0]
        rw [if_neg (by simp), wrap64_id _ (by omega) (by omega), put_loop b W k l n hl (by omega) hn.1 hn.2 (by omega), down_bl b W l n (by omega), hd, Int.toNat_natCast]
theorem pow_le (i j : Nat) (h : i ≤ j) : (256 : Int) ^ i ≤ ((256 ^ j : Nat) : Int) := by
  have h1 : 256 ^ i ≤ 256 ^ j := Nat.pow_le_pow_right (show 256 > 0 by decide) h
  have h2 : (256 : Int) ^ i = ((256 ^ i : Nat) : Int) := by rw [Int.natCast_pow]; rfl
  rw [h2]
  exact Int.ofNat_le.2 h1
theorem get_loop (l : List Int) (a : Nat) (W : Nat) (hW : W ≤ 8) (hb : IsBytes l) (hl : l.length ≤ 5000) (ha : a + W ≤ l.length) : ∀ (d k i : Nat), W - i = d → i ≤ W → d < k →
    ferrymanref01_Get.l0 k l (a : Int) (W : Int) (beNum (((l.drop a).take i))) (i : Int) = some (beNum ((l.drop a).take W), true) := by
  intro d
  induction d with
  | zero =>
    intro k i hd hi hk
    obtain ⟨k, rfl⟩ : ∃ m, k = m + 1 := ⟨k - 1, by omega⟩
    obtain rfl : i = W := by omega
    simp only [ferrymanref01_Get.l0]
    rw [if_neg (by omega)]
  | succ d ih =>
    intro k i hd hi hk
    obtain ⟨k, rfl⟩ : ∃ m, k = m + 1 := ⟨k - 1, by omega⟩
    simp only [ferrymanref01_Get.l0]
    have hlen : i < (l.drop a).length := by rw [List.length_drop]; omega
    have c1 : (i : Int) < (W : Int) := by omega
    have hw : wrap64 ((a : Int) + (i : Int)) = (a : Int) + (i : Int) := wrap64_id _ (by omega) (by omega)
    have c2 : 0 ≤ (a : Int) + (i : Int) := by omega
    have c3 : (a : Int) + (i : Int) < (l.length : Int) := by omega
    have hw2 : wrap64 ((i : Int) + 1) = ((i + 1 : Nat) : Int) := by rw [wrap64_id _ (by omega) (by omega)]; omega
    have c4 : i ≤ 7 := by omega
    have c5 : ((a : Int) + (i : Int)).toNat = a + i := by omega
    have nxt := ih k (i + 1) (by omega) (by omega) (by omega)
    have hbd : IsBytes (l.drop a) := fun b h => hb b (List.mem_of_mem_drop h)
    have e : IntKind.u64.wrap ((IntKind.u64.wrap (beNum ((l.drop a).take i) * 256)) + (IntKind.u64.wrap (rd l ((a : Int) + (i : Int))))) = beNum ((l.drop a).take (i + 1)) := by
      have hr := beNum_range ((l.drop a).take i) (fun b h => hbd b (List.mem_of_mem_take h))
      have hlt : ((l.drop a).take i).length = i := by rw [List.length_take]; exact Nat.min_eq_left (Nat.le_of_lt hlen)
      rw [hlt] at hr
      have hp := pow_le i 7 c4
      have hp7 : ((256 ^ 7 : Nat) : Int) = 72057594037927936 := by decide +kernel
      rw [hp7] at hp
      have hstep := beNum_take (l.drop a) i hlen
      have hg : (l.drop a).getD i 0 = rd l ((a : Int) + (i : Int)) := by
        unfold rd
        rw [c5, List.getD_eq_getElem?_getD, List.getD_eq_getElem?_getD, List.getElem?_drop]
      have hbb : 0 ≤ (l.drop a).getD i 0 ∧ (l.drop a).getD i 0 < 256 := by
        rw [List.getD_eq_getElem?_getD, List.getElem?_eq_getElem hlen]
        exact hbd _ (List.getElem_mem _)
      rw [hg] at hstep hbb
      rw [hstep]
      clear hstep hg hb hbd ih nxt
      generalize beNum ((l.drop a).take i) = z at *
      generalize rd l ((a : Int) + (i : Int)) = y at *
      obtain ⟨hz0, hz1⟩ := hr
      have hz2 := Int.lt_of_lt_of_le hz1 hp
      clear hp7 hp hz1
      simp only [IntKind.wrap_u64]
      omega
    rw [if_pos c1, hw, if_pos c2, if_pos c3, e, hw2]
    exact nxt
theorem ref_get (W : Nat) (l : List Int) (a : Int) (hW : W ≤ 8) (hb : IsBytes l) (hl : l.length ≤ 5000) (ha : -9223372036854775808 ≤ a ∧ a < 9223372036854775808) (k : Nat) (hk : 10 < k) :
    ferrymanref01_Get.f k l a (W : Int) = some (getF W l a) := by
  obtain ⟨k, rfl⟩ : ∃ m, k = m + 1 := ⟨k - 1, by omega⟩
  have no : ferrymanref01_Get.j0 (k + 1) l a (W : Int) true = some (0, false) := by
    simp only [ferrymanref01_Get.j0]
    rw [if_pos trivial]
  unfold ferrymanref01_Get.f getF
  by_cases h1 : a < 0
  · rw [if_pos h1, no, if_neg (by omega)]
  · rw [if_neg h1]
    by_cases h2 : (l.length : Int) < (W : Int)
    · rw [if_pos h2, no, if_neg (by omega)]
    · rw [if_neg h2, wrap64_id _ (by omega) (by omega)]
      by_cases h3 : a > (l.length : Int) - (W : Int)
      · rw [decide_eq_true h3, no, if_neg (by omega)]
      · rw [decide_eq_false h3, if_pos (by omega)]
        obtain ⟨b, rfl⟩ := Int.eq_ofNat_of_zero_le (by omega : 0 ≤ a)
        simp only [ferrymanref01_Get.j0]
        rw [if_neg (by simp)]
        have := get_loop l b W hW hb hl (by omega) W k 0 (by omega) (by omega) (by omega)
        rw [Int.toNat_natCast]
        exact this
theorem putF_be16 (n : Int) : be16 (n % 65536) = be16 n := by
  simp only [be16, List.cons.injEq, and_true]
  refine ⟨?_, ?_⟩ <;> omega
theorem putF_be32 (n : Int) : be32 (n % 4294967296) = be32 n := by
  simp only [be32, List.cons.injEq, and_true]
  refine ⟨?_, ?_, ?_, ?_⟩ <;> omega
theorem getF_fst (W : Nat) (hW : W ≤ 8) (l : List Int) (a : Int) (hb : IsBytes l) : 0 ≤ (getF W l a).1 ∧ (getF W l a).1 < 18446744073709551616 := by
  unfold getF
  split
  · have := beNum_range ((l.drop a.toNat).take W) (fun b h => hb b (List.mem_of_mem_drop (List.mem_of_mem_take h)))
    have hp := pow_le ((l.drop a.toNat).take W).length 8 (by rw [List.length_take]; omega)
    have hp8 : ((256 ^ 8 : Nat) : Int) = 18446744073709551616 := by decide +kernel
    rw [hp8] at hp
    obtain ⟨hz0, hz1⟩ := this
    have hz2 := Int.lt_of_lt_of_le hz1 hp
    clear hp8 hp hz1
    dsimp only
    omega
  · dsimp only
    omega
theorem BitsTells : ferrymanlaw01_BitsTells.Pure := by
  intro l a n _ hm hw wa wn
  have hb := isBytes_of hw
  have ha := lit_i64 wa
  have hn := lit_u64 wn
  refine ⟨6000, ?_⟩
  unfold ferrymanlaw01_BitsTells.f
  by_cases h1 : (l.length : Int) > 5000
  · rw [if_pos h1, awake_ge _ (by omega)]
    rfl
  · have hl : l.length ≤ 5000 := by omega
    rw [if_neg h1, own_is l (by omega)]
    have r2 := ref_put 2 (be16 n) l a n (by omega) (bl2 n) hl ha hn 6000 (by omega)
    have r4 := ref_put 4 (be32 n) l a n (by omega) (bl4 n hn.1) hl ha hn 6000 (by omega)
    have r8 := ref_put 8 (be64 n) l a n (by omega) (bl8 n hn.1) hl ha hn 6000 (by omega)
    have p2 : bits_Put16.f l a (IntKind.u16.wrap n) = some (putF 2 l a (be16 n)) := by
      unfold bits_Put16.f
      rw [IntKind.wrap_u16, if_pos (by omega), putF_be16]
    have p4 : bits_Put32.f l a (n % 4294967296) = some (putF 4 l a (be32 n)) := by
      unfold bits_Put32.f
      rw [if_pos (by omega), putF_be32]
    have p8 : bits_Put64.f l a n = some (putF 8 l a (be64 n)) := by
      unfold bits_Put64.f
      rw [if_pos (by omega)]
    have g2 := ref_get 2 l a (by omega) hb hl ha 5998 (by omega)
    have g4 := ref_get 4 l a (by omega) hb hl ha 5998 (by omega)
    have g8 := ref_get 8 l a (by omega) hb hl ha 5998 (by omega)
    have q2 : bits_Get16.f l a = some (getF 2 l a) := by unfold bits_Get16.f; rw [if_pos hb]
    have q4 : bits_Get32.f l a = some (getF 4 l a) := by unfold bits_Get32.f; rw [if_pos hb]
    have q8 : bits_Get64.f l a = some (getF 8 l a) := by unfold bits_Get64.f; rw [if_pos hb]
    have f2 := getF_fst 2 (by omega) l a hb
    have f4 := getF_fst 4 (by omega) l a hb
    rw [show ((2 : Nat) : Int) = 2 from rfl] at r2 g2
    rw [show ((4 : Nat) : Int) = 4 from rfl] at r4 g4
    rw [show ((8 : Nat) : Int) = 8 from rfl] at r8 g8
    simp only [Option.bind_some]
    rw [p2, r2]
    simp only [Option.bind_some]
    rw [p4, r4]
    simp only [Option.bind_some, bne_self_eq_false, Bool.false_eq_true, if_false]
    rw [p8, r8]
    simp only [Option.bind_some, bne_self_eq_false]
    simp only [ferrymanlaw01_BitsTells.j0, Bool.false_eq_true, if_false]
    have hlen : ∀ (W : Nat) (bs : List Int), (putF W l a bs).2.length ≤ 5000 := fun W bs => by rw [putF_len]; exact hl
    have hq2 := hlen 2 (be16 n)
    have hq4 := hlen 4 (be32 n)
    have hq8 := hlen 8 (be64 n)
    rw [bytes_same _ (by omega) _ (by omega), bytes_same _ (by omega) _ (by omega), bytes_same _ (by omega) _ (by omega)]
    simp only [Option.bind_some, if_true, Bool.not_true]
    simp only [ferrymanlaw01_BitsTells.j1, Bool.false_eq_true, if_false]
    rw [own_is l (by omega)]
    simp only [Option.bind_some]
    rw [q2, g2]
    simp only [Option.bind_some]
    rw [q4, g4]
    simp only [Option.bind_some]
    rw [q8, g8]
    simp only [Option.bind_some, beq_self_eq_true, if_true]
    rw [if_pos (by rw [IntKind.wrap_u64]; omega), if_pos (by rw [IntKind.wrap_u64]; omega), bytes_same l (by omega) _ (by omega)]
    simp only [Option.bind_some, if_true]
    rw [awake_ge _ (by omega)]
    rfl

end Go.Proofs.Ytbhnhbpamndldaa.Pure

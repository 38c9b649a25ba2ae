/- What was put is got, at its place; all other bytes stay. Of every input, no condition: the pure statement behind the printed walk. -/
import Derived.Test.YtbhnhbpamndldaaPBitsBackx2
import Derived.Test.YtbhnhbpamndldaaBitsMath
namespace Go.Proofs.Ytbhnhbpamndldaa.Pure
open Go.RowKit Go.Proofs.Ytbhnhbpamndldaa.Bits Go.Proofs.Ytbhnhbpamndldaa.PBitsBack Go.Proofs.YtbhnhbpamndldaaW.PrintWords Go.Proofs.YtbhnhbpamndldaaW.PrintLast
set_option linter.unusedVariables false
set_option linter.unusedSimpArgs false

theorem awake_ok : ferrymanlaw01_awake.f 20 = some true := by decide +kernel
theorem awake_ge (k : Nat) (h : 20 ≤ k) : ferrymanlaw01_awake.f k = some true := by
  obtain ⟨j, rfl⟩ := Nat.exists_eq_add_of_le h
  clear h
  induction j with
  | zero => exact awake_ok
  | succ j ih => exact ferrymanlaw01_awake.mono _ _ ih

theorem own_is (l : List Int) (hm : l.length ≤ 140737488351232) : ferrymanlaw01_own.f l = some l := by
  unfold ferrymanlaw01_own.f
  rw [Option.bind_some, if_pos (by simp; omega)]
  rfl

theorem scan (l l' : List Int) (a n : Int) (W : Int) (x9 : Bool) (k : Nat) (hl : l.length ≤ 5000) (hl' : l'.length = l.length) (hin : x9 = true → 0 ≤ a ∧ a + W ≤ l.length) (hW : 0 < W ∧ W ≤ 8)
    (h : ∀ i : Nat, i < l.length → (x9 = true → (i : Int) < a ∨ a + W ≤ (i : Int)) → rd l' (i : Int) = rd l (i : Int)) : ∀ (d i : Nat), l.length - i = d → i ≤ l.length →
    ferrymanlaw01_BitsBack.l1 (k + d + 1) l a n W l' x9 (i : Int) = ferrymanlaw01_BitsBack.l0 k l a n (wrap64 (2 * W)) := by
  intro d
  induction d with
  | zero =>
    intro i hd hi
    simp only [ferrymanlaw01_BitsBack.l1]
    rw [if_neg (by omega)]
    first | done | rfl
  | succ d ih =>
    intro i hd hi
    have nxt := ih (i + 1) (by omega) (by omega)
    have ew : wrap64 ((i : Int) + 1) = ((i + 1 : Nat) : Int) := by rw [wrap64_id _ (by omega) (by omega)]; omega
    show ferrymanlaw01_BitsBack.l1 (k + d + 1 + 1) l a n W l' x9 (i : Int) = _
    generalize k + d + 1 = q at nxt ⊢
    simp only [ferrymanlaw01_BitsBack.l1]
    rw [ew, if_pos (by omega)]
    have c1 : (0 : Int) ≤ (i : Int) := by omega
    have c2 : (i : Int) < (l'.length : Int) := by omega
    by_cases h9 : x9 = true
    · obtain ⟨g0, g1⟩ := hin h9
      rw [if_pos h9]
      by_cases h1 : (i : Int) < a
      · rw [if_pos h1, if_pos c1, if_pos c2, if_pos (h i (by omega) (fun _ => .inl h1))]
        exact nxt
      · rw [if_neg h1, wrap64_id _ (by omega) (by omega)]
        by_cases h2 : (i : Int) ≥ a + W
        · rw [if_pos h2, if_pos c1, if_pos c2, if_pos (h i (by omega) (fun _ => .inr h2))]
          exact nxt
        · rw [if_neg h2]
          exact nxt
    · rw [if_neg h9, if_pos c1, if_pos c2, if_pos (h i (by omega) (fun e => absurd e h9))]
      exact nxt
theorem tail (l l' : List Int) (a n : Int) (W : Int) (x9 : Bool) (x10 x11 : Int) (k : Nat) (hW : 0 < W ∧ W ≤ 8) (hl : l.length ≤ 5000) (ha : -9223372036854775808 ≤ a ∧ a < 9223372036854775808) (hl' : l'.length = l.length)
    (h9 : x9 = decide (0 ≤ a ∧ a + W ≤ (l.length : Int))) (h10 : x10 = if 0 ≤ a ∧ a + W ≤ (l.length : Int) then Go.bits .and .u64 n x11 else 0)
    (h : ∀ i : Nat, i < l.length → (0 ≤ a ∧ a + W ≤ (l.length : Int) → (i : Int) < a ∨ a + W ≤ (i : Int)) → rd l' (i : Int) = rd l (i : Int)) :
    ferrymanlaw01_BitsBack.j2 (k + l.length + 3) l a n W l' x9 x10 x11 = ferrymanlaw01_BitsBack.l0 k l a n (wrap64 (2 * W)) := by
  have last : ferrymanlaw01_BitsBack.j3 (k + l.length + 2) l a n W l' x9 false = ferrymanlaw01_BitsBack.l0 k l a n (wrap64 (2 * W)) := by
    show ferrymanlaw01_BitsBack.j3 (k + l.length + 1 + 1) l a n W l' x9 false = _
    simp only [ferrymanlaw01_BitsBack.j3]
    rw [if_neg (by simp)]
    exact scan l l' a n W x9 k hl hl' (fun e => by rw [h9] at e; exact of_decide_eq_true e) hW (fun i hi hx => h i hi (fun hin => hx (by rw [h9]; exact decide_eq_true hin))) l.length 0 (by omega) (by omega)
  show ferrymanlaw01_BitsBack.j2 (k + l.length + 2 + 1) l a n W l' x9 x10 x11 = _
  simp only [ferrymanlaw01_BitsBack.j2]
  by_cases hin : 0 ≤ a ∧ a + W ≤ (l.length : Int)
  · rw [decide_eq_true hin] at h9
    rw [if_pos hin] at h10
    subst h9
    rw [if_pos (by omega), wrap64_id _ (by omega) (by omega), decide_eq_true (by omega), if_neg (by simp), if_pos rfl, if_pos h10]
    exact last
  · rw [decide_eq_false hin] at h9
    rw [if_neg hin] at h10
    subst h9 h10
    by_cases h0 : a ≥ 0
    · rw [if_pos h0, wrap64_id _ (by omega) (by omega), decide_eq_false (by omega), if_neg (by simp), if_neg (by simp)]
      exact last
    · rw [if_neg h0, if_neg (by simp), if_neg (by simp)]
      exact last

theorem round2 (l : List Int) (a n : Int) (k : Nat) (hb : IsBytes l) (hl : l.length ≤ 5000) (ha : -9223372036854775808 ≤ a ∧ a < 9223372036854775808) (hn : 0 ≤ n ∧ n < 18446744073709551616) :
    ferrymanlaw01_BitsBack.l0 (k + l.length + 4) l a n 2 = ferrymanlaw01_BitsBack.l0 k l a n 4 := by
  have hx : 0 ≤ (IntKind.u16.wrap n) ∧ (IntKind.u16.wrap n) % 65536 = n % 65536 := by rw [IntKind.wrap_u16]; omega
  have p : bits_Put16.f l a (IntKind.u16.wrap n) = some (putF 2 l a (be16 (IntKind.u16.wrap n))) := by
    unfold bits_Put16.f
    rw [if_pos hx.1]
  have q : bits_Get16.f (putF 2 l a (be16 (IntKind.u16.wrap n))).2 a = some (getF 2 (putF 2 l a (be16 (IntKind.u16.wrap n))).2 a) := by
    unfold bits_Get16.f
    rw [if_pos (putF_bytes 2 l _ a rfl (be16_bytes _) hb)]
  have g := getF_putF 2 l (be16 (IntKind.u16.wrap n)) a rfl
  rw [beNum_be16 _ hx.1, hx.2] at g
  have m : Go.bits .and .u64 n 65535 = n % 65536 := bits_mask .u64 64 (by decide) (fun n h0 h1 => by rw [IntKind.wrap_u64]; omega) 16 (by decide) n hn.1 hn.2
  show ferrymanlaw01_BitsBack.l0 (k + l.length + 3 + 1) l a n 2 = _
  simp only [ferrymanlaw01_BitsBack.l0]
  rw [if_pos (by omega), own_is l (by omega), Option.bind_some]
  rw [if_pos trivial]
  rw [p, Option.bind_some, q, Option.bind_some]
  refine (tail l (putF 2 l a (be16 (IntKind.u16.wrap n))).2 a n 2 (putF 2 l a (be16 (IntKind.u16.wrap n))).1 _ 65535 k (by omega) hl ha (putF_len _ _ _ _) ?_ ?_ ?_).trans ?_
  · unfold putF
    by_cases h : 0 ≤ a ∧ a + (2 : Nat) ≤ (l.length : Int)
    · rw [if_pos h, decide_eq_true (by omega)]
    · rw [if_neg h, decide_eq_false (by omega)]
  · rw [g, m]
    by_cases h : 0 ≤ a ∧ a + (2 : Nat) ≤ (l.length : Int)
    · rw [if_pos h, if_pos (by omega)]
      dsimp only
      rw [IntKind.wrap_u64]
      omega
    · rw [if_neg h, if_neg (by omega)]
      try rfl
  · intro i hi hout
    unfold putF rd
    by_cases h : 0 ≤ a ∧ a + (2 : Nat) ≤ (l.length : Int)
    · rw [if_pos h, List.getD_eq_getElem?_getD, List.getD_eq_getElem?_getD, Int.toNat_natCast, put_at _ _ _ _ (by rw [show (be16 (IntKind.u16.wrap n)).length = 2 from rfl]; omega), if_neg (by rw [show (be16 (IntKind.u16.wrap n)).length = 2 from rfl]; omega)]
    · rw [if_neg h]
  · rw [wrap64_id _ (by omega) (by omega)]
    rfl

theorem round4 (l : List Int) (a n : Int) (k : Nat) (hb : IsBytes l) (hl : l.length ≤ 5000) (ha : -9223372036854775808 ≤ a ∧ a < 9223372036854775808) (hn : 0 ≤ n ∧ n < 18446744073709551616) :
    ferrymanlaw01_BitsBack.l0 (k + l.length + 4) l a n 4 = ferrymanlaw01_BitsBack.l0 k l a n 8 := by
  have hx : 0 ≤ (n % 4294967296) ∧ (n % 4294967296) % 4294967296 = n % 4294967296 := by omega
  have p : bits_Put32.f l a (n % 4294967296) = some (putF 4 l a (be32 (n % 4294967296))) := by
    unfold bits_Put32.f
    rw [if_pos hx.1]
  have q : bits_Get32.f (putF 4 l a (be32 (n % 4294967296))).2 a = some (getF 4 (putF 4 l a (be32 (n % 4294967296))).2 a) := by
    unfold bits_Get32.f
    rw [if_pos (putF_bytes 4 l _ a rfl (be32_bytes _) hb)]
  have g := getF_putF 4 l (be32 (n % 4294967296)) a rfl
  rw [beNum_be32 _ hx.1, hx.2] at g
  have m : Go.bits .and .u64 n 4294967295 = n % 4294967296 := bits_mask .u64 64 (by decide) (fun n h0 h1 => by rw [IntKind.wrap_u64]; omega) 32 (by decide) n hn.1 hn.2
  show ferrymanlaw01_BitsBack.l0 (k + l.length + 3 + 1) l a n 4 = _
  simp only [ferrymanlaw01_BitsBack.l0]
  rw [if_pos (by omega), own_is l (by omega), Option.bind_some]
  rw [if_neg (by omega), if_pos trivial]
  rw [p, Option.bind_some, q, Option.bind_some]
  refine (tail l (putF 4 l a (be32 (n % 4294967296))).2 a n 4 (putF 4 l a (be32 (n % 4294967296))).1 _ 4294967295 k (by omega) hl ha (putF_len _ _ _ _) ?_ ?_ ?_).trans ?_
  · unfold putF
    by_cases h : 0 ≤ a ∧ a + (4 : Nat) ≤ (l.length : Int)
    · rw [if_pos h, decide_eq_true (by omega)]
    · rw [if_neg h, decide_eq_false (by omega)]
  · rw [g, m]
    by_cases h : 0 ≤ a ∧ a + (4 : Nat) ≤ (l.length : Int)
    · rw [if_pos h, if_pos (by omega)]
      dsimp only
      rw [IntKind.wrap_u64]
      omega
    · rw [if_neg h, if_neg (by omega)]
      try rfl
  · intro i hi hout
    unfold putF rd
    by_cases h : 0 ≤ a ∧ a + (4 : Nat) ≤ (l.length : Int)
    · rw [if_pos h, List.getD_eq_getElem?_getD, List.getD_eq_getElem?_getD, Int.toNat_natCast, put_at _ _ _ _ (by rw [show (be32 (n % 4294967296)).length = 4 from rfl]; omega), if_neg (by rw [show (be32 (n % 4294967296)).length = 4 from rfl]; omega)]
    · rw [if_neg h]
  · rw [wrap64_id _ (by omega) (by omega)]
    rfl

theorem round8 (l : List Int) (a n : Int) (k : Nat) (hb : IsBytes l) (hl : l.length ≤ 5000) (ha : -9223372036854775808 ≤ a ∧ a < 9223372036854775808) (hn : 0 ≤ n ∧ n < 18446744073709551616) :
    ferrymanlaw01_BitsBack.l0 (k + l.length + 4) l a n 8 = ferrymanlaw01_BitsBack.l0 k l a n 16 := by
  have hx : 0 ≤ n ∧ n % 18446744073709551616 = n % 18446744073709551616 := by omega
  have p : bits_Put64.f l a n = some (putF 8 l a (be64 n)) := by
    unfold bits_Put64.f
    rw [if_pos hx.1]
  have q : bits_Get64.f (putF 8 l a (be64 n)).2 a = some (getF 8 (putF 8 l a (be64 n)).2 a) := by
    unfold bits_Get64.f
    rw [if_pos (putF_bytes 8 l _ a rfl (be64_bytes _) hb)]
  have g := getF_putF 8 l (be64 n) a rfl
  rw [beNum_be64 _ hx.1, hx.2] at g
  have m : Go.bits .and .u64 n 18446744073709551615 = n % 18446744073709551616 := bits_mask .u64 64 (by decide) (fun n h0 h1 => by rw [IntKind.wrap_u64]; omega) 64 (by decide) n hn.1 hn.2
  show ferrymanlaw01_BitsBack.l0 (k + l.length + 3 + 1) l a n 8 = _
  simp only [ferrymanlaw01_BitsBack.l0]
  rw [if_pos (by omega), own_is l (by omega), Option.bind_some]
  rw [if_neg (by omega), if_neg (by omega)]
  rw [p, Option.bind_some, q, Option.bind_some]
  refine (tail l (putF 8 l a (be64 n)).2 a n 8 (putF 8 l a (be64 n)).1 _ 18446744073709551615 k (by omega) hl ha (putF_len _ _ _ _) ?_ ?_ ?_).trans ?_
  · unfold putF
    by_cases h : 0 ≤ a ∧ a + (8 : Nat) ≤ (l.length : Int)
    · rw [if_pos h, decide_eq_true (by omega)]
    · rw [if_neg h, decide_eq_false (by omega)]
  · rw [g, m]
    by_cases h : 0 ≤ a ∧ a + (8 : Nat) ≤ (l.length : Int)
    · rw [if_pos h, if_pos (by omega)]
      try rfl
    · rw [if_neg h, if_neg (by omega)]
      try rfl
  · intro i hi hout
    unfold putF rd
    by_cases h : 0 ≤ a ∧ a + (8 : Nat) ≤ (l.length : Int)
    · rw [if_pos h, List.getD_eq_getElem?_getD, List.getD_eq_getElem?_getD, Int.toNat_natCast, put_at _ _ _ _ (by rw [show (be64 n).length = 8 from rfl]; omega), if_neg (by rw [show (be64 n).length = 8 from rfl]; omega)]
    · rw [if_neg h]
  · rw [wrap64_id _ (by omega) (by omega)]
    rfl

theorem BitsBack : ferrymanlaw01_BitsBack.Pure := by
  intro l a n _ hm hw wa wn
  have hb := isBytes_of hw
  have ha := lit_i64 wa
  have hn := lit_u64 wn
  by_cases h1 : (l.length : Int) > 5000
  · refine ⟨30, ?_⟩
    unfold ferrymanlaw01_BitsBack.f
    rw [if_pos h1]
    simp only [ferrymanlaw01_BitsBack.j0]
    rw [if_pos trivial, awake_ge _ (by omega)]
    rfl
  · have hl : l.length ≤ 5000 := by omega
    refine ⟨20 + l.length + 4 + l.length + 4 + l.length + 4 + 1, ?_⟩
    unfold ferrymanlaw01_BitsBack.f
    rw [if_neg h1, awake_ge _ (by omega), Option.bind_some]
    simp only [ferrymanlaw01_BitsBack.j0, Bool.not_true]
    rw [if_neg (by simp), round2 l a n _ hb hl ha hn, round4 l a n _ hb hl ha hn, round8 l a n _ hb hl ha hn]
    show ferrymanlaw01_BitsBack.l0 (19 + 1) l a n 16 = some true
    simp only [ferrymanlaw01_BitsBack.l0]
    rw [if_neg (by omega)]

end Go.Proofs.Ytbhnhbpamndldaa.Pure

/- delta answers as the reference does. Of every input whose strings are no larger than a row allows: the pure statement behind the walk. -/
import Derived.Test.YtbhnhbpamndldaaPDeltaTellsx4
import Derived.Test.YtbhnhbpamndldaaDeltaMore
namespace Go.Proofs.Ytbhnhbpamndldaa.Pure
open Go.RowKit Go.Proofs.Ytbhnhbpamndldaa.Delta Go.Proofs.Ytbhnhbpamndldaa.Bits Go.Proofs.Ytbhnhbpamndldaa.PDeltaTells Go.Proofs.YtbhnhbpamndldaaW.PrintWords Go.Proofs.YtbhnhbpamndldaaW.PrintLast
set_option linter.unusedVariables false
set_option linter.unusedSimpArgs false
namespace Tells
theorem awake_ok : ferrymanlaw07_awake.f = some true := by decide +kernel
theorem wrap_n (x : Int) (n : Nat) (h : x = n) (hn : n ≤ 9223372036854775807) : wrap64 x = n := by subst h; unfold wrap64; omega
theorem wrap_succ (i : Nat) (h : i ≤ 1000000) : wrap64 ((i : Int) + 1) = ((i + 1 : Nat) : Int) := wrap_n _ _ (by omega) (by omega)

/-! ### Make -/
theorem two_is (p : Nat) (h : p < 65536) : ferrymanref07_two.f (p : Int) = some (strOfNums (be16 (p : Int))) := by
  have e1 : wrap64 (Int.tdiv (p : Int) 256) = (p : Int) / 256 := by
    rw [Int.tdiv_eq_ediv_of_nonneg (by omega)]
    unfold wrap64
    omega
  have e2 : Int.tmod (p : Int) 256 % 256 = (p : Int) % 256 := by
    rw [Int.tmod_eq_emod_of_nonneg (by omega)]
    omega
  unfold ferrymanref07_two.f
  rw [e1, e2]
  rfl
theorem fin (a b : ByteArray) (ha : a.size ≤ 256) (hb : b.size ≤ 256) :
    ((ferrymanref07_two.f (frontN a b : Int)).bind fun t => ((ferrymanref07_two.f (midS a b : Int)).bind fun t' => (if t.size + t'.size ≤ 9223372036854775807 then (if 0 ≤ (frontN a b : Int) then (if (frontN a b : Int) ≤ (wrap64 ((b.size : Int) - (midS a b : Int))) then (if (wrap64 ((b.size : Int) - (midS a b : Int))) ≤ (b.size : Int) then (if (t ++ t').size + (b.extract (frontN a b : Int).toNat ((wrap64 ((b.size : Int) - (midS a b : Int))) : Int).toNat).size ≤ 9223372036854775807 then (some ((t ++ t') ++ (b.extract (frontN a b : Int).toNat ((wrap64 ((b.size : Int) - (midS a b : Int))) : Int).toNat), (0 : Int))) else (none)) else (none)) else (none)) else (none)) else (none)))) = some (makeS a b, 0) := by
  obtain ⟨b1, b2, b3, b4⟩ := mid_bounds a b
  have ew : wrap64 ((b.size : Int) - (midS a b : Int)) = ((b.size - midS a b : Nat) : Int) := wrap_n _ _ (by omega) (by omega)
  have s1 : ∀ p : Nat, (strOfNums (be16 (p : Int))).size = 2 := fun _ => rfl
  rw [two_is _ (by omega), two_is _ (by omega), Option.bind_some, Option.bind_some, ew, Int.toNat_natCast, Int.toNat_natCast]
  rw [if_pos (by rw [s1, s1]; omega), if_pos (by omega), if_pos (by omega), if_pos (by omega), if_pos (by rw [ByteArray.size_append, s1, s1, ByteArray.size_extract]; omega), ← nums_join]
  rfl
theorem l1_ok (a b : ByteArray) (ha : a.size ≤ 256) (hb : b.size ≤ 256) : ∀ (m i k : Nat), i ≤ midS a b → midS a b - i ≤ m → m < k → ferrymanref07_Make.l1 k a b (frontN a b : Int) (i : Int) = some (makeS a b, 0) := by
  obtain ⟨b1, b2, b3, b4⟩ := mid_bounds a b
  obtain ⟨_, _, h3, h4⟩ := mid_is a b
  have ea : wrap64 ((a.size : Int) - (frontN a b : Int)) = ((a.size - frontN a b : Nat) : Int) := wrap_n _ _ (by omega) (by omega)
  have eb : wrap64 ((b.size : Int) - (frontN a b : Int)) = ((b.size - frontN a b : Nat) : Int) := wrap_n _ _ (by omega) (by omega)
  have eq1 : ∀ (c : ByteArray) (i : Nat), c.size ≤ 256 → i < c.size → wrap64 (wrap64 ((c.size : Int) - 1) - (i : Int)) = ((c.size - 1 - i : Nat) : Int) := fun c i hc hi => by
    rw [wrap_n ((c.size : Int) - 1) (c.size - 1) (by omega) (by omega)]
    exact wrap_n _ _ (by omega) (by omega)
  intro m
  induction m with
  | zero =>
    intro i k hi hm hk
    obtain ⟨k, rfl⟩ : ∃ k', k = k' + 1 := ⟨k - 1, by omega⟩
    obtain rfl : i = midS a b := by omega
    simp only [ferrymanref07_Make.l1]
    rw [ea, eb]
    by_cases c1 : midS a b < a.size - frontN a b
    · rw [if_pos (by omega)]
      by_cases c2 : midS a b < b.size - frontN a b
      · rw [if_pos (by omega), eq1 a _ ha (by omega), eq1 b _ hb (by omega), if_pos (by omega), if_pos (by omega), if_pos (by omega), if_pos (by omega), if_neg (h4 c1 c2)]
        exact fin a b ha hb
      · rw [if_neg (by omega)]
        exact fin a b ha hb
    · rw [if_neg (by omega)]
      exact fin a b ha hb
  | succ m ih =>
    intro i k hi hm hk
    by_cases he : i = midS a b
    · exact (ih i k hi (by omega) (by omega))
    · obtain ⟨k, rfl⟩ : ∃ k', k = k' + 1 := ⟨k - 1, by omega⟩
      simp only [ferrymanref07_Make.l1]
      rw [ea, eb, if_pos (by omega), if_pos (by omega), eq1 a _ ha (by omega), eq1 b _ hb (by omega), if_pos (by omega), if_pos (by omega), if_pos (by omega), if_pos (by omega), if_pos (h3 i (by omega)), wrap_succ i (by omega)]
      exact ih (i + 1) k (by omega) (by omega) (by omega)
theorem j2_ok (a b : ByteArray) (ha : a.size ≤ 256) (hb : b.size ≤ 256) (k : Nat) (hk : 300 ≤ k) : ferrymanref07_Make.j2 k a b (frontN a b : Int) = some (makeS a b, 0) := by
  obtain ⟨k, rfl⟩ : ∃ k', k = k' + 1 := ⟨k - 1, by omega⟩
  obtain ⟨b1, b2, b3, b4⟩ := mid_bounds a b
  simp only [ferrymanref07_Make.j2]
  exact l1_ok a b ha hb (midS a b) 0 k (by omega) (by omega) (by omega)
theorem l0_ok (a b : ByteArray) (ha : a.size ≤ 256) (hb : b.size ≤ 256) : ∀ (m i k : Nat), i ≤ frontN a b → frontN a b - i ≤ m → m + 300 < k → ferrymanref07_Make.l0 k a b (i : Int) = some (makeS a b, 0) := by
  obtain ⟨b1, b2, h3, h4⟩ := front_is a b
  intro m
  induction m with
  | zero =>
    intro i k hi hm hk
    obtain ⟨k, rfl⟩ : ∃ k', k = k' + 1 := ⟨k - 1, by omega⟩
    obtain rfl : i = frontN a b := by omega
    simp only [ferrymanref07_Make.l0]
    have hj := j2_ok a b ha hb k (by omega)
    by_cases c1 : frontN a b < a.size
    · rw [if_pos (by omega)]
      by_cases c2 : frontN a b < b.size
      · rw [if_pos (by omega), if_pos (by omega), if_neg (h4 c1 c2)]
        exact hj
      · rw [if_neg (by omega)]
        exact hj
    · rw [if_neg (by omega)]
      exact hj
  | succ m ih =>
    intro i k hi hm hk
    by_cases he : i = frontN a b
    · exact (ih i k hi (by omega) (by omega))
    · obtain ⟨k, rfl⟩ : ∃ k', k = k' + 1 := ⟨k - 1, by omega⟩
      simp only [ferrymanref07_Make.l0]
      rw [if_pos (by omega), if_pos (by omega), if_pos (by omega), if_pos (h3 i (by omega)), wrap_succ i (by omega)]
      exact ih (i + 1) k (by omega) (by omega) (by omega)
theorem make_ref (a b : ByteArray) (k : Nat) (hk : 700 ≤ k) : ferrymanref07_Make.f k a b = delta_Make.f a b := by
  obtain ⟨k, rfl⟩ : ∃ k', k = k' + 1 := ⟨k - 1, by omega⟩
  unfold ferrymanref07_Make.f
  by_cases c1 : (a.size : Int) > 256
  · rw [if_pos c1, make_large a b (.inl (by omega))]
    simp only [ferrymanref07_Make.j0]
    rw [if_pos trivial]
  · rw [if_neg c1]
    by_cases c2 : (b.size : Int) > 256
    · rw [decide_eq_true c2, make_large a b (.inr (by omega))]
      simp only [ferrymanref07_Make.j0]
      rw [if_pos trivial]
    · rw [decide_eq_false c2, make_is a b (by omega) (by omega)]
      simp only [ferrymanref07_Make.j0]
      rw [if_neg (by simp)]
      obtain ⟨b1, b2, _, _⟩ := front_is a b
      exact l0_ok a b (by omega) (by omega) (frontN a b) 0 k (by omega) (by omega) (by omega)

/-! ### Apply -/
theorem num_ok (d : ByteArray) (i : Int) : wrap64 (wrap64 (wrap64 (bt d i) * 256) + wrap64 (bt d (i + 1))) = (numAt d i : Int) ∧ numAt d i < 65536 := by
  have h1 := bt_range d i
  have h2 := bt_range d (i + 1)
  unfold numAt
  generalize bt d i = x at *
  generalize bt d (i + 1) = y at *
  unfold wrap64
  omega
theorem apply_ref (a d : ByteArray) (hd : d.size ≤ 1000000) (k : Nat) (hk : 710 ≤ k) : ferrymanref07_Apply.f k a d = some (applyF a d) := by
  obtain ⟨k, rfl⟩ : ∃ k', k = k' + 1 := ⟨k - 1, by omega⟩
  unfold ferrymanref07_Apply.f applyF
  by_cases c1 : (a.size : Int) > 256
  · rw [if_pos c1, if_pos (show a.size > 256 by omega)]
  · rw [if_neg c1, if_neg (show ¬ a.size > 256 by omega)]
    by_cases c2 : (d.size : Int) < 4
    · rw [if_pos c2, if_pos (show d.size < 4 by omega)]
    · rw [if_neg c2, if_neg (show ¬ d.size < 4 by omega), if_pos (by omega), if_pos (by omega), if_pos (by omega), if_pos (by omega)]
      have n0 := num_ok d 0
      have n2 := num_ok d 2
      rw [show (0 : Int) + 1 = 1 from rfl] at n0
      rw [show (2 : Int) + 1 = 3 from rfl] at n2
      rw [n0.1, n2.1]
      have p0 := n0.2
      have p2 := n2.2
      clear n0 n2
      generalize numAt d 0 = p at *
      generalize numAt d 2 = s at *
      rw [wrap_n ((p : Int) + (s : Int)) (p + s) (by omega) (by omega), wrap_n (((p + s : Nat) : Int) + (d.size : Int)) (p + s + d.size) (by omega) (by omega), wrap_n (((p + s + d.size : Nat) : Int) - 4) (p + s + d.size - 4) (by omega) (by omega)]
      by_cases c3 : a.size < p + s
      · rw [if_pos (by omega), if_pos c3]
        simp only [ferrymanref07_Apply.j0]
        rw [if_pos trivial]
      · rw [if_neg (by omega), if_neg c3]
        have hos : (olderS a d p s).size = p + (d.size - 4) + s := by
          unfold olderS
          rw [ByteArray.size_append, ByteArray.size_append, ByteArray.size_extract, ByteArray.size_extract, ByteArray.size_extract]
          omega
        by_cases c4 : p + s + d.size - 4 > 256
        · rw [decide_eq_true (by omega), make_large a _ (.inr (by omega))]
          simp only [ferrymanref07_Apply.j0]
          rw [if_pos trivial, if_neg (by intro hh; exact absurd hh.1 (by decide))]
        · rw [decide_eq_false (by omega), make_is a _ (by omega) (by omega)]
          simp only [ferrymanref07_Apply.j0]
          rw [if_neg (by simp), wrap_n ((a.size : Int) - (s : Int)) (a.size - s) (by omega) (by omega), Int.toNat_natCast, Int.toNat_natCast]
          rw [if_pos (by omega), if_pos (by omega), if_pos (by omega), if_pos (by rw [ByteArray.size_extract, ByteArray.size_extract]; omega), if_pos (by omega), if_pos (by omega), if_pos (by rw [ByteArray.size_append, ByteArray.size_extract, ByteArray.size_extract, ByteArray.size_extract]; omega)]
          rw [show ((a.extract 0 p ++ d.extract 4 d.size) ++ a.extract (a.size - s) a.size) = olderS a d p s from rfl, make_ref a _ k (by omega), make_is a _ (by omega) (by omega), Option.bind_some]
          dsimp only
          by_cases c5 : makeS a (olderS a d p s) = d
          · rw [if_pos (by rw [c5]), if_pos ⟨trivial, c5⟩]
          · rw [if_neg (fun h => c5 (toList_inj h)), if_neg (fun h => c5 h.2)]

/-! ### Back -/
theorem rd_at (l : List ByteArray) (i : Nat) (h : i < l.length) : l[i]? = some (rdOf ByteArray.empty l (i : Int)) := by
  unfold rdOf
  rw [Int.toNat_natCast, List.getD_eq_getElem?_getD, List.getElem?_eq_getElem h]
  rfl
theorem back_ref (l : List ByteArray) (hl : l.length ≤ 100000) (hs : ∀ d ∈ l, d.size ≤ 1000000) : ∀ (m i k : Nat) (x : ByteArray), i ≤ l.length → l.length - i ≤ m → m + 720 < k → ferrymanref07_Back.l0 k x l (i : Int) = some (backF x (l.drop i)) := by
  intro m
  induction m with
  | zero =>
    intro i k x hi hm hk
    obtain ⟨k, rfl⟩ : ∃ k', k = k' + 1 := ⟨k - 1, by omega⟩
    simp only [ferrymanref07_Back.l0]
    rw [if_neg (by omega), show i = l.length by omega, List.drop_length]
    rfl
  | succ m ih =>
    intro i k x hi hm hk
    by_cases h : i < l.length
    · obtain ⟨k, rfl⟩ : ∃ k', k = k' + 1 := ⟨k - 1, by omega⟩
      have hr := rd_at l i h
      have hz := hs _ (List.mem_of_getElem? hr)
      simp only [ferrymanref07_Back.l0]
      rw [if_pos (by omega), if_pos (by omega), backF_drop hr, apply_ref x _ hz k (by omega), Option.bind_some]
      by_cases c : (applyF x (rdOf ByteArray.empty l (i : Int))).2 = 0
      · rw [if_pos c, if_pos c, wrap_succ i (by omega)]
        exact ih (i + 1) k _ (by omega) (by omega) (by omega)
      · rw [if_neg c, if_neg c]
    · exact ih i k x hi (by omega) (by omega)

/-! ### the law -/
theorem large_ok (l : List ByteArray) (hs : ∀ d ∈ l, d.size ≤ 140737488351232) : ∀ (m i k : Nat) (x3 : Int), 0 ≤ x3 → 20000 - x3 ≤ 10 * m → m < k → i + m ≤ 10000 →
    ∃ t, ferrymanlaw07_large.l0 k l x3 (i : Int) = some t ∧ (t = false → x3 < 20000 ∧ l.length - i ≤ m ∧ ∀ j, i ≤ j → j < l.length → (rdOf ByteArray.empty l (j : Int)).size < 20000) := by
  intro m
  induction m with
  | zero =>
    intro i k x3 h0 hx hk hi
    obtain ⟨k, rfl⟩ : ∃ k', k = k' + 1 := ⟨k - 1, by omega⟩
    have e : decide (x3 ≥ 20000) = true := decide_eq_true (by omega)
    refine ⟨true, ?_, fun h => by cases h⟩
    simp only [ferrymanlaw07_large.l0, e]
    rw [if_neg (c := x3 < 20000) (by omega), ite_self]
  | succ m ih =>
    intro i k x3 h0 hx hk hi
    obtain ⟨k, rfl⟩ : ∃ k', k = k' + 1 := ⟨k - 1, by omega⟩
    simp only [ferrymanlaw07_large.l0]
    by_cases c1 : i < l.length
    · rw [if_pos (by omega)]
      by_cases c2 : x3 < 20000
      · have hz := hs _ (List.mem_of_getElem? (rd_at l i c1))
        rw [if_pos c2, if_pos (by omega), wrap_succ i (by omega)]
        obtain ⟨t, ht, hf⟩ := ih (i + 1) k (x3 + 10 + ((rdOf ByteArray.empty l (i : Int)).size : Int)) (by omega) (by omega) (by omega) (by omega)
        refine ⟨t, ?_, fun h => ?_⟩
        · have ew : wrap64 (wrap64 (x3 + 10) + ((rdOf ByteArray.empty l (i : Int)).size : Int)) = x3 + 10 + ((rdOf ByteArray.empty l (i : Int)).size : Int) := by
            unfold wrap64
            omega
          rw [ew]
          exact ht
        · obtain ⟨f1, f2, f3⟩ := hf h
          refine ⟨c2, by omega, fun j hj hl => ?_⟩
          by_cases e : j = i
          · subst e
            omega
          · exact f3 j (by omega) hl
      · rw [if_neg c2]
        exact ⟨_, rfl, fun h => absurd h (by rw [decide_eq_true (by omega : x3 ≥ 20000)]; decide)⟩
    · rw [if_neg (by omega)]
      refine ⟨_, rfl, fun h => ⟨?_, by omega, fun j hj hl => by omega⟩⟩
      have := of_decide_eq_false h
      omega
theorem loop_ok (a : ByteArray) (l : List ByteArray) (hl : l.length ≤ 100000) (hs : ∀ d ∈ l, d.size ≤ 1000000) (ys : List ByteArray) (hy : ys.length ≤ 100) (hz : ∀ d ∈ ys, d.size ≤ 1000000) : ∀ (m i k : Nat), i ≤ ys.length → ys.length - i ≤ m → m + l.length + 800 < k →
    ferrymanlaw07_DeltaTells.l0 k a l ys (ys.length : Int) (i : Int) = some true := by
  intro m
  induction m with
  | zero =>
    intro i k hi hm hk
    obtain ⟨k, rfl⟩ : ∃ k', k = k' + 1 := ⟨k - 1, by omega⟩
    have hb : delta_Back.f a l = some (backF a l) := by
      unfold delta_Back.f
      rw [if_pos (fun d hd => by have := hs d hd; omega)]
    have hr : ferrymanref07_Back.f k a l = some (backF a l) := by
      have := back_ref l hl hs l.length 0 k a (by omega) (by omega) (by omega)
      rw [List.drop_zero] at this
      exact this
    simp only [ferrymanlaw07_DeltaTells.l0]
    rw [if_neg (by omega), hb, Option.bind_some, hr, Option.bind_some, if_pos rfl, if_pos rfl, awake_ok]
    rfl
  | succ m ih =>
    intro i k hi hm hk
    by_cases h : i < ys.length
    · obtain ⟨k, rfl⟩ : ∃ k', k = k' + 1 := ⟨k - 1, by omega⟩
      have hd := hz _ (List.mem_of_getElem? (rd_at ys i h))
      have hb : delta_Apply.f a (rdOf ByteArray.empty ys (i : Int)) = some (applyF a (rdOf ByteArray.empty ys (i : Int))) := by
        unfold delta_Apply.f
        rw [if_pos (by omega)]
      simp only [ferrymanlaw07_DeltaTells.l0]
      rw [if_pos (by omega), if_pos (by omega), if_pos (by omega), hb, Option.bind_some, apply_ref a _ hd k (by omega), Option.bind_some, if_pos rfl, if_pos rfl, wrap_succ i (by omega)]
      exact ih (i + 1) k (by omega) (by omega) (by omega)
    · exact ih i k hi (by omega) (by omega)
theorem make_short (a b : ByteArray) : ∃ r, delta_Make.f a b = some r ∧ r.1.size ≤ 260 := by
  by_cases h : a.size ≤ 256 ∧ b.size ≤ 256
  · have := make_size a b
    exact ⟨_, make_is a b h.1 h.2, by dsimp only; omega⟩
  · exact ⟨_, make_large a b (by omega), by dsimp only; decide⟩
end Tells
open Tells in
theorem DeltaTells (a b c : ByteArray) (l : List ByteArray) (hs : ∀ d ∈ l, d.size ≤ 140737488351232) : ∃ k, ferrymanlaw07_DeltaTells.f k a b c l = some true := by
  obtain ⟨K, hK⟩ : ∃ K : Nat, K = 6000 := ⟨_, rfl⟩
  refine ⟨K + 2, ?_⟩
  have skip : ferrymanlaw07_DeltaTells.j0 (K + 2) a b c l true = some true := by
    simp only [ferrymanlaw07_DeltaTells.j0]
    rw [if_pos trivial, awake_ok]
    rfl
  unfold ferrymanlaw07_DeltaTells.f
  by_cases c1 : (a.size : Int) > 5000
  · rw [if_pos c1]
    exact skip
  · rw [if_neg c1]
    by_cases c2 : (b.size : Int) > 5000
    · rw [if_pos c2]
      exact skip
    · rw [if_neg c2]
      by_cases c3 : (c.size : Int) > 5000
      · rw [if_pos c3]
        exact skip
      · rw [if_neg c3]
        obtain ⟨t, ht, hf⟩ := large_ok l hs 2000 0 (K + 2) 0 (by omega) (by omega) (by omega) (by omega)
        have ht' : ferrymanlaw07_large.f (K + 2) l = some t := ht
        rw [ht', Option.bind_some]
        cases t with
        | true => exact skip
        | false =>
          obtain ⟨_, f2, f3⟩ := hf rfl
          have hs2 : ∀ d ∈ l, d.size ≤ 1000000 := fun d hd => by
            obtain ⟨j, hj, e⟩ := List.mem_iff_getElem.1 hd
            have h1 := rd_at l j hj
            rw [List.getElem?_eq_getElem hj, e] at h1
            have h2 := f3 j (by omega) hj
            rw [← Option.some.inj h1] at h2
            omega
          obtain ⟨r, hr, hz⟩ := make_short a b
          simp only [ferrymanlaw07_DeltaTells.j0]
          rw [if_neg (by simp), make_ref a b (K + 1) (by omega), hr, Option.bind_some, Option.bind_some, if_pos rfl]
          simp only [ferrymanlaw07_DeltaTells.j1]
          have e1 : (r.1 ++ c).size = r.1.size + c.size := ByteArray.size_append
          have e2 : (c ++ r.1).size = c.size + r.1.size := ByteArray.size_append
          rw [if_neg (by simp), if_pos (by omega), if_pos (by omega), Option.bind_some]
          refine loop_ok a l (by omega) hs2 [c, r.1, r.1 ++ c, c ++ r.1] (by simp) (fun d hd => ?_) 4 0 K (by simp) (by simp) (by omega)
          simp only [List.mem_cons, List.not_mem_nil, or_false] at hd
          rcases hd with rfl | rfl | rfl | rfl <;> omega
end Go.Proofs.Ytbhnhbpamndldaa.Pure

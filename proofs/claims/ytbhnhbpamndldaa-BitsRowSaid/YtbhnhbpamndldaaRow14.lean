/- BitsRow: rows of 14 bytes; the order of big-endian bytes is the order of the numbers. -/
import Derived.Test.YtbhnhbpamndldaaDelta2
import Derived.Test.YtbhnhbpamndldaaDeltaMath
import Derived.Test.YtbhnhbpamndldaaBitsMath
namespace Go.Proofs.Ytbhnhbpamndldaa.Row14
open Go.RowKit Go.Proofs.YtbhnhbpamndldaaW.PrintWords Go.Proofs.YtbhnhbpamndldaaW.PrintLast Go.Proofs.YtbhnhbpamndldaaW.PrintMore
open Go.Proofs.Ytbhnhbpamndldaa.Bits Go.Proofs.Ytbhnhbpamndldaa.Delta
set_option linter.unusedVariables false
set_option linter.unusedSimpArgs false

/-! ### the order -/
def numR : List Int → Int
  | [] => 0
  | x :: l => x * (256 : Int) ^ l.length + numR l
theorem numR_range : ∀ (l : List Int), IsBytes l → 0 ≤ numR l ∧ numR l < (256 : Int) ^ l.length
  | [], _ => by simp [numR]
  | x :: l, h => by
    have hx := h x (by simp)
    have ih := numR_range l (fun b hb => h b (by simp [hb]))
    rw [numR, List.length_cons, Int.pow_succ]
    generalize (256 : Int) ^ l.length = P at *
    generalize numR l = n at *
    have h1 : x * P ≤ 255 * P := Int.mul_le_mul_of_nonneg_right (by omega) (by omega)
    have h2 : 0 ≤ x * P := Int.mul_nonneg (by omega) (by omega)
    omega
theorem u8_lt (x y : Int) (hx : 0 ≤ x ∧ x < 256) (hy : 0 ≤ y ∧ y < 256) : (UInt8.ofNat x.toNat < UInt8.ofNat y.toNat) ↔ x < y := by
  rw [UInt8.lt_iff_toNat_lt, ofNat_toNat _ (by omega), ofNat_toNat _ (by omega)]
  omega
theorem u8_eq (x y : Int) (hx : 0 ≤ x ∧ x < 256) (hy : 0 ≤ y ∧ y < 256) : (UInt8.ofNat x.toNat = UInt8.ofNat y.toNat) ↔ x = y := by
  rw [← UInt8.toNat_inj, ofNat_toNat _ (by omega), ofNat_toNat _ (by omega)]
  omega
theorem less_nums : ∀ (xs ys : List Int), xs.length = ys.length → IsBytes xs → IsBytes ys → Op.bytesLess (xs.map fun n => UInt8.ofNat n.toNat) (ys.map fun n => UInt8.ofNat n.toNat) = decide (numR xs < numR ys)
  | [], [], _, _, _ => by simp [Op.bytesLess, numR]
  | [], _ :: _, h, _, _ => by simp at h
  | _ :: _, [], h, _, _ => by simp at h
  | x :: xs, y :: ys, h, hx, hy => by
    have hl : xs.length = ys.length := by simpa using h
    have bx := hx x (by simp)
    have bY := hy y (by simp)
    have hx' : IsBytes xs := fun b hb => hx b (by simp [hb])
    have hy' : IsBytes ys := fun b hb => hy b (by simp [hb])
    have r1 := numR_range xs hx'
    have r2 := numR_range ys hy'
    rw [List.map_cons, List.map_cons, Op.bytesLess, less_nums xs ys hl hx' hy', numR, numR, hl]
    rw [hl] at r1
    generalize (256 : Int) ^ ys.length = P at *
    generalize numR xs = m at *
    generalize numR ys = n at *
    have e1 := u8_lt x y bx bY
    have e2 := u8_eq x y bx bY
    rcases Int.lt_trichotomy x y with c | c | c
    · have h1 : (x + 1) * P ≤ y * P := Int.mul_le_mul_of_nonneg_right (by omega) (by omega)
      rw [Int.add_mul, Int.one_mul] at h1
      have t1 : x * P + m < y * P + n := by omega
      simp [e1.2 c, t1]
    · subst c
      have t1 : ¬ (UInt8.ofNat x.toNat < UInt8.ofNat x.toNat) := fun hh => by have := e1.1 hh; omega
      have t2 : (x * P + m < x * P + n) ↔ m < n := by omega
      simp [t1, t2]
    · have h1 : (y + 1) * P ≤ x * P := Int.mul_le_mul_of_nonneg_right (by omega) (by omega)
      rw [Int.add_mul, Int.one_mul] at h1
      have t1 : ¬ (x * P + m < y * P + n) := by omega
      have t2 : ¬ (UInt8.ofNat x.toNat < UInt8.ofNat y.toNat) := fun hh => by have := e1.1 hh; omega
      have t3 : ¬ (UInt8.ofNat x.toNat = UInt8.ofNat y.toNat) := fun hh => by have := e2.1 hh; omega
      simp [t1, t2, t3]
theorem less_str (xs ys : List Int) (h : xs.length = ys.length) (hx : IsBytes xs) (hy : IsBytes ys) : Op.bytesLess (strOfNums xs).toList (strOfNums ys).toList = decide (numR xs < numR ys) := by
  have e : ∀ l : List Int, (strOfNums l).toList = l.map fun n => UInt8.ofNat n.toNat := fun l => by
    rw [ByteArray.toList_eq]
    exact L_nums l
  rw [e, e, less_nums xs ys h hx hy]
theorem numR_64 (x : Int) (h : 0 ≤ x ∧ x < 18446744073709551616) : numR (be64 x) = x := by
  simp [numR, be64]
  omega
theorem numR_32 (x : Int) (h : 0 ≤ x ∧ x < 4294967296) : numR (be32 x) = x := by
  simp [numR, be32]
  omega
theorem numR_16 (x : Int) (h : 0 ≤ x ∧ x < 65536) : numR (be16 x) = x := by
  simp [numR, be16]
  omega

/-! ### rows of 14 -/
def Row (W : World) (g : Nat) (f : Nat → Int) : Prop := ∀ j, j < 14 → W.cell? ⟨g, j, none⟩ = some (.int .u8 (f j)) ∧ W.frozen? ⟨g, j, none⟩ = false
def upd (f : Nat → Int) (o : Nat) (bs : List Int) : Nat → Int := fun j => if o ≤ j ∧ j < o + bs.length then bs.getD (j - o) 0 else f j
theorem Row.can {W : World} {g : Nat} {f : Nat → Int} (h : Row W g f) (o n : Nat) (ho : o + n ≤ 14) : CanPut W g o n := fun j hj => ⟨⟨_, (h (o + j) (by omega)).1⟩, (h (o + j) (by omega)).2⟩
theorem Row.put {W : World} {g : Nat} {f : Nat → Int} (h : Row W g f) (o : Nat) (bs : List Int) (ho : o + bs.length ≤ 14) (m : Nat) : Row ((W.setCells g o (bs.map (Value.int .u8))).drewN m) g (upd f o bs) := by
  intro j hj
  rw [World.frozen?_drewN, World.frozen?_setCells, World.cell?_drewN]
  refine ⟨?_, (h j hj).2⟩
  unfold upd
  by_cases c : o ≤ j ∧ j < o + bs.length
  · rw [if_pos c]
    obtain ⟨i, rfl⟩ := Nat.exists_eq_add_of_le c.1
    rw [World.cell?_setCells_in g (bs.map (Value.int .u8)) o W (fun i hi => by rw [(h (o + i) (by rw [List.length_map] at hi; omega)).1]; rfl) i (by rw [List.length_map]; omega)]
    have hi : i < bs.length := by omega
    simp [List.getD_eq_getElem?_getD, hi]
  · rw [if_neg c, World.cell?_setCells_out g _ o W _ (fun _ _ => by rw [List.length_map]; show j < o ∨ o + bs.length ≤ j; omega)]
    exact (h j hj).1
theorem Row.other {W : World} {g g2 : Nat} {f : Nat → Int} (h : Row W g2 f) (hne : g2 ≠ g) (o : Nat) (vs : List Value) (m : Nat) : Row ((W.setCells g o vs).drewN m) g2 f := by
  intro j hj
  rw [World.frozen?_drewN, World.frozen?_setCells, World.cell?_drewN, World.cell?_setCells_out g _ o W _ (fun e _ => absurd e hne)]
  exact h j hj
theorem below_setCells {B g : Nat} {w0 : World} (hg : B ≤ g) : ∀ (vs : List Value) (o : Nat) (W : World), Below B w0 W → Below B w0 (W.setCells g o vs)
  | [], _, _, h => h
  | v :: vs, o, W, h => below_setCells hg vs (o + 1) _ (h.setCell (p := ⟨g, o, none⟩) hg v)
def Both (B : Nat) (w0 W : World) (g : Nat) (f : Nat → Int) (g2 : Nat) (f2 : Nat → Int) : Prop := Row W g f ∧ Row W g2 f2 ∧ g ≠ g2 ∧ B ≤ g ∧ B ≤ g2 ∧ Below B w0 W
set_option maxHeartbeats 400000 in
theorem Put32_at (g n c at_ : Nat) (x : Int) (hx0 : 0 ≤ x) (w : World) (hn : n ≤ 9223372036854775807) (hnc : n ≤ c) (h : at_ + 4 ≤ n) (hc : CanPut w g at_ 4) :
    Calls Try.prog 23 #[.slice (some ⟨g, 0, none⟩) n c, .int .i64 at_, .int .u32 x] w fun e w' => e = .returned (.bool true) ∧ ∃ m, w' = (w.setCells g at_ (cells32 x)).drewN m := by
  have HC : Hid (CanPut w g (0 + at_) 4) := by rw [Nat.zero_add]; exact hc
  clear hc
  go_enter Try.func23, Try.ntmps23
  go_wp2_with fail
  refine (put32_yes g 0 n c at_ x hx0 _ hn hnc h HC.out).mono ?_
  rintro e w' ⟨rfl, m, rfl⟩
  rw [Nat.zero_add]
  go_wp2
  go_ret
  exact ⟨rfl, m, rfl⟩
set_option maxHeartbeats 400000 in
theorem Put64_at (g n c at_ : Nat) (x : Int) (hx0 : 0 ≤ x) (w : World) (hn : n ≤ 9223372036854775807) (hnc : n ≤ c) (h : at_ + 8 ≤ n) (hc : CanPut w g at_ 8) :
    Calls Try.prog 22 #[.slice (some ⟨g, 0, none⟩) n c, .int .i64 at_, .int .u64 x] w fun e w' => e = .returned (.bool true) ∧ ∃ m, w' = (w.setCells g at_ (cells64 x)).drewN m := by
  have HC : Hid (CanPut w g (0 + at_) 8) := by rw [Nat.zero_add]; exact hc
  clear hc
  go_enter Try.func22, Try.ntmps22
  go_wp2_with fail
  refine (put64_yes g 0 n c at_ x hx0 _ hn hnc h HC.out).mono ?_
  rintro e w' ⟨rfl, m, rfl⟩
  rw [Nat.zero_add]
  go_wp2
  go_ret
  exact ⟨rfl, m, rfl⟩
theorem Both.put {B : Nat} {w0 W : World} {g g2 : Nat} {f f2 : Nat → Int} (h : Both B w0 W g f g2 f2) (o : Nat) (bs : List Int) (ho : o + bs.length ≤ 14) (m : Nat) :
    Both B w0 ((W.setCells g o (bs.map (Value.int .u8))).drewN m) g (upd f o bs) g2 f2 := by
  obtain ⟨h1, h2, h3, h4, h5, h6⟩ := h
  exact ⟨h1.put o bs ho m, h2.other (fun e => h3 e.symm) o _ m, h3, h4, h5, pw_below_drewN (below_setCells h4 _ o W h6) m⟩
theorem Both.swap {B : Nat} {w0 W : World} {g g2 : Nat} {f f2 : Nat → Int} (h : Both B w0 W g f g2 f2) : Both B w0 W g2 f2 g f :=
  ⟨h.2.1, h.1, fun e => h.2.2.1 e.symm, h.2.2.2.2.1, h.2.2.2.1, h.2.2.2.2.2⟩
theorem put64 {B : Nat} {w0 W : World} {g g2 : Nat} {f f2 : Nat → Int} (h : Both B w0 W g f g2 f2) (x : Int) (hx : 0 ≤ x) :
    Calls Try.prog 22 #[.slice (some ⟨g, 0, none⟩) 14 14, .int .i64 0, .int .u64 x] W fun e W' => e = .returned (.bool true) ∧ Both B w0 W' g (upd f 0 (be64 x)) g2 f2 :=
  (Put64_at g 14 14 0 x hx W (by omega) (by omega) (by omega) (h.1.can 0 8 (by omega))).mono fun e W' ⟨he, m, hw⟩ => ⟨he, by rw [hw]; exact h.put 0 (be64 x) (by show 0 + 8 ≤ 14; omega) m⟩
theorem put32 {B : Nat} {w0 W : World} {g g2 : Nat} {f f2 : Nat → Int} (h : Both B w0 W g f g2 f2) (x : Int) (hx : 0 ≤ x) :
    Calls Try.prog 23 #[.slice (some ⟨g, 0, none⟩) 14 14, .int .i64 8, .int .u32 x] W fun e W' => e = .returned (.bool true) ∧ Both B w0 W' g (upd f 8 (be32 x)) g2 f2 :=
  (Put32_at g 14 14 8 x hx W (by omega) (by omega) (by omega) (h.1.can 8 4 (by omega))).mono fun e W' ⟨he, m, hw⟩ => ⟨he, by rw [hw]; exact h.put 8 (be32 x) (by show 8 + 4 ≤ 14; omega) m⟩
theorem put16 {B : Nat} {w0 W : World} {g g2 : Nat} {f f2 : Nat → Int} (h : Both B w0 W g f g2 f2) (x : Int) (hx : 0 ≤ x) :
    Calls Try.prog 33 #[.slice (some ⟨g, 0, none⟩) 14 14, .int .i64 12, .int .u16 x] W fun e W' => e = .returned (.bool true) ∧ Both B w0 W' g (upd f 12 (be16 x)) g2 f2 :=
  (Put16_at g 14 14 12 x hx W (by omega) (by omega) (by omega) (h.1.can 12 2 (by omega))).mono fun e W' ⟨he, m, hw⟩ => ⟨he, by rw [hw]; exact h.put 12 (be16 x) (by show 12 + 2 ≤ 14; omega) m⟩
/-- The row when all is put. -/
def full (x y z : Int) : Nat → Int := upd (upd (upd (fun _ => 0) 0 (be64 x)) 8 (be32 y)) 12 (be16 z)
end Go.Proofs.Ytbhnhbpamndldaa.Row14

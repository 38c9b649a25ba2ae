/- delta.Apply: what it answers. -/
import Derived.Test.YtbhnhbpamndldaaDelta2
namespace Go.Proofs.Ytbhnhbpamndldaa.Delta
open Go.RowKit Go.Proofs.YtbhnhbpamndldaaW.PrintWords Go.Proofs.YtbhnhbpamndldaaW.PrintLast Go.Proofs.YtbhnhbpamndldaaW.PrintMore
open Go.Proofs.Ytbhnhbpamndldaa.Bits
set_option linter.unusedVariables false
set_option linter.unusedSimpArgs false

set_option maxHeartbeats 400000 in
theorem Get16_at (g n c at_ : Nat) (ys : List Int) (w : World) (hn : n ≤ 9223372036854775807) (hnc : n ≤ c) (h : at_ + 2 ≤ n) (hl : ys.length = 2) (hy : ∀ b ∈ ys, 0 ≤ b ∧ b < 256)
    (hc : ∀ j, j < 2 → w.cell? ⟨g, at_ + j, none⟩ = some (.int .u8 (ys.getD j 0))) :
    Calls Try.prog 36 #[.slice (some ⟨g, 0, none⟩) n c, .int .i64 at_] w fun e w' => e = .returned (.tuple #[.int .u16 (beNum ys), .bool true]) ∧ Drawn0 w w' := by
  have HC : Hid (∀ j, j < 2 → w.cell? ⟨g, 0 + at_ + j, none⟩ = some (.int .u8 (ys.getD j 0))) := by rw [Nat.zero_add]; exact hc
  have HY := Lib.hid hy
  have HL := Lib.hid hl
  clear hc hy hl
  go_enter Try.func36, Try.ntmps36
  go_wp2_with fail
  refine (get16_yes g 0 n c at_ ys _ hn hnc h HL.out HY.out HC.out).mono ?_
  rintro e w' ⟨rfl, ⟨m, rfl⟩⟩
  go_wp2
  go_ret2
  exact ⟨rfl, ⟨m, rfl⟩⟩

theorem below_bytes {B : Nat} {w0 W : World} (h : Below B w0 W) (hB : B ≤ W.heap.size) (s : ByteArray) : Below B w0 (Lib.bytesWorld W 5 s) :=
  h.trans ⟨rfl, rfl, rfl, by rw [Lib.bytesWorld_size]; omega, fun k hk => Lib.bytesWorld_at_old W 5 s k (by omega)⟩
theorem ext4 (d : ByteArray) (hd : 4 ≤ d.size) : (d.extract 0 4).size = 4 := by rw [ByteArray.size_extract]; omega
theorem ext4_cell (d : ByteArray) (hd : 4 ≤ d.size) (W : World) (j : Nat) (hj : j < 4) : (Lib.bytesWorld W 5 (d.extract 0 4)).cell? ⟨W.heap.size, j, none⟩ = some (.int .u8 (bt d (j : Int))) := by
  rw [Lib.bytesWorld_cell W 5 _ j (by rw [ext4 d hd]; exact hj)]
  have h : j < d.size := by omega
  have e : (d.extract 0 4).data.toList.getD j 0 = d[j] := by
    have hj2 : j < d.data.size := h
    rw [ByteArray.data_extract, List.getD_eq_getElem?_getD, Array.getElem?_toList, Array.getElem?_extract_of_lt (by simp; omega)]
    simp only [Nat.zero_add]
    rfl
  rw [e]
  simp [bt, h]

theorem toList_inj {x y : ByteArray} (h : x.toList = y.toList) : x = y := by
  rw [ByteArray.toList_eq, ByteArray.toList_eq] at h
  cases x
  cases y
  simp only [ByteArray.mk.injEq]
  exact Array.toList_inj.1 h
theorem beNum2 (x y : Int) : beNum [x, y] = x * 256 + y := by simp [beNum]
def olderS (a d : ByteArray) (p s : Nat) : ByteArray := (a.extract 0 p ++ d.extract 4 d.size) ++ a.extract (a.size - s) a.size

set_option maxHeartbeats 2000000 in
theorem apply_main (a d : ByteArray) (w : World) (ha : a.size ≤ 256) (hd : 4 ≤ d.size) (hdm : d.size ≤ 4611686018427387904) (p s : Nat) (hp : (p : Int) = bt d 0 * 256 + bt d 1) (hs : (s : Int) = bt d 2 * 256 + bt d 3)
    (hps : p + s ≤ a.size) (m1 : ByteArray) (m2 : Int) (hm : delta_Make.f a (olderS a d p s) = some (m1, m2)) (r : ByteArray × Int) (hr : r = if m2 = 0 ∧ m1 = d then (olderS a d p s, 0) else (⟨#[]⟩, 4)) :
    Calls Try.prog 29 #[.string a, .string d] w fun e w' => e = .returned (.tuple #[.string r.1, .int .i64 r.2]) ∧ Below w.heap.size w w' := by
  have g1 : decide ((a.size : Int) > 256) = false := decide_eq_false (by omega)
  have g2 : decide ((d.size : Int) < 4) = false := decide_eq_false (by omega)
  have hcv := fun (W : World) => Lib.run_convert_string_bytes (P := Try.prog) W 9 33 5 (d.extract 0 4) Try.underlying9 Try.underlying33 Try.underlying5
  rw [ext4 d hd] at hcv
  have b0 := bt_range d 0
  have b1 := bt_range d 1
  have b2 := bt_range d 2
  have b3 := bt_range d 3
  have k1 : ∀ W, Calls Try.prog 36 #[.slice (some ⟨W.heap.size, 0, none⟩) 4 (grownCap W 4 0 5), .int .i64 0] (Lib.bytesWorld W 5 (d.extract 0 4)) fun e w' => e = .returned (.tuple #[.int .u16 p, .bool true]) ∧ Drawn0 (Lib.bytesWorld W 5 (d.extract 0 4)) w' := fun W => by
    have := Get16_at W.heap.size 4 (grownCap W 4 0 5) 0 [bt d 0, bt d 1] (Lib.bytesWorld W 5 (d.extract 0 4)) (by omega) (grownCap_ge W 4 0 5) (by omega) rfl (by simp; omega) (fun j hj => by
      rw [Nat.zero_add, ext4_cell d hd W j (by omega)]
      have h : j = 0 ∨ j = 1 := by omega
      rcases h with rfl | rfl <;> rfl)
    rwa [beNum2, ← hp] at this
  have k2 : ∀ W, Calls Try.prog 36 #[.slice (some ⟨W.heap.size, 0, none⟩) 4 (grownCap W 4 0 5), .int .i64 2] (Lib.bytesWorld W 5 (d.extract 0 4)) fun e w' => e = .returned (.tuple #[.int .u16 s, .bool true]) ∧ Drawn0 (Lib.bytesWorld W 5 (d.extract 0 4)) w' := fun W => by
    have := Get16_at W.heap.size 4 (grownCap W 4 0 5) 2 [bt d 2, bt d 3] (Lib.bytesWorld W 5 (d.extract 0 4)) (by omega) (grownCap_ge W 4 0 5) (by omega) rfl (by simp; omega) (fun j hj => by
      rw [ext4_cell d hd W (2 + j) (by omega)]
      have h : j = 0 ∨ j = 1 := by omega
      rcases h with rfl | rfl <;> rfl)
    rwa [beNum2, ← hs] at this
  clear b0 b1 b2 b3 hp hs
  have K1 := Lib.hid k1
  have K2 := Lib.hid k2
  have HM := Lib.hid hm
  have HR := Lib.hid hr
  clear k1 k2 hm hr
  have f1 : decide ((p : Int) + (s : Int) > (a.size : Int)) = false := decide_eq_false (by omega)
  go_enter Try.func29, Try.ntmps29
  go_wp2_with fail
  refine (K1.out _).mono ?_
  rintro e w1 ⟨rfl, ⟨q1, h1⟩⟩
  have B1 : Below w.heap.size w w1 := by rw [h1]; exact pw_below_drewN (below_bytes (Below.refl _ _) (Nat.le_refl _) _) _
  have HB1 := Lib.hid B1
  clear h1 B1
  go_wp2_with fail
  refine (K2.out _).mono ?_
  rintro e w2 ⟨rfl, ⟨q2, h2⟩⟩
  have B2 : Below w.heap.size w w2 := by rw [h2]; exact pw_below_drewN (below_bytes HB1.out (HB1.out.size) _) _
  have HB2 := Lib.hid B2
  clear h2 B2 HB1
  go_wp2_with fail
  have e1 : IntKind.i64.wrap ((a.size : Int) - (s : Int)) = ((a.size - s : Nat) : Int) := by rw [IntKind.wrap_i64]; omega
  have e2 : p ≤ a.size := by omega
  have e3 : a.size - s ≤ a.size := by omega
  have e4 : (a.extract 0 p).size ≤ 256 := by rw [ByteArray.size_extract]; omega
  have e5 : (d.extract 4 d.size).size ≤ 4611686018427387904 := by rw [ByteArray.size_extract]; omega
  have e6 : (a.extract (a.size - s) a.size).size ≤ 256 := by rw [ByteArray.size_extract]; omega
  have e7 : ¬ 9223372036854775807 < (a.extract 0 p).size + (d.extract 4 d.size).size := by omega
  have e8 : ¬ 9223372036854775807 < (a.extract 0 p ++ d.extract 4 d.size).size + (a.extract (a.size - s) a.size).size := by rw [ByteArray.size_append]; omega
  go_quiet (fail)
  clear e1 e2 e3 e4 e5 e6 e7 e8
  go_wp2_with fail
  refine (delta_Make.calls a (olderS a d p s) m1 m2 _ HM.out).mono ?_
  rintro e w3 ⟨rfl, h3⟩
  have HB3 : Hid (Below w.heap.size w w3) := below_then (pw_below_drewN HB2.out _) (by simpa using HB2.out.size) h3
  clear h3 HB2
  by_cases hm2 : m2 = 0
  · have t1 : (m2 != 0) = false := by simp [hm2]
    have t1' : (m2 == 0) = true := by simp [hm2]
    by_cases hmd : m1 = d
    · have t2 : (m1.toList != d.toList) = false := by simp [hmd]
      have t2' : (m1.toList == d.toList) = true := by simp [hmd]
      have hr := HR.out
      rw [if_pos ⟨hm2, hmd⟩] at hr
      have HR2 := Lib.hid hr
      clear hr hm2 hmd HR
      go_wp2
      go_ret2
      exact ⟨by rw [HR2.out]; rfl, HB3.out⟩
    · have hne : m1.toList ≠ d.toList := fun e => hmd (toList_inj e)
      have t2 : (m1.toList != d.toList) = true := by simp [hne]
      have t2' : (m1.toList == d.toList) = false := by simp [hne]
      have hr := HR.out
      rw [if_neg (fun h => hmd h.2)] at hr
      have HR2 := Lib.hid hr
      clear hr hm2 hmd HR hne
      go_wp2
      go_ret2
      exact ⟨by rw [HR2.out]; rfl, HB3.out⟩
  · have t1 : (m2 != 0) = true := by simp [hm2]
    have t1' : (m2 == 0) = false := by simp [hm2]
    have hr := HR.out
    rw [if_neg (fun h => hm2 h.1)] at hr
    have HR2 := Lib.hid hr
    clear hr hm2 HR
    go_wp2
    go_ret2
    exact ⟨by rw [HR2.out]; rfl, HB3.out⟩

set_option maxHeartbeats 1000000 in
theorem apply_far (a d : ByteArray) (w : World) (ha : a.size ≤ 256) (hd : 4 ≤ d.size) (p s : Nat) (hp : (p : Int) = bt d 0 * 256 + bt d 1) (hs : (s : Int) = bt d 2 * 256 + bt d 3)
    (hps : a.size < p + s) :
    Calls Try.prog 29 #[.string a, .string d] w fun e w' => e = .returned (.tuple #[.string ⟨#[]⟩, .int .i64 4]) ∧ Below w.heap.size w w' := by
  have g1 : decide ((a.size : Int) > 256) = false := decide_eq_false (by omega)
  have g2 : decide ((d.size : Int) < 4) = false := decide_eq_false (by omega)
  have hcv := fun (W : World) => Lib.run_convert_string_bytes (P := Try.prog) W 9 33 5 (d.extract 0 4) Try.underlying9 Try.underlying33 Try.underlying5
  rw [ext4 d hd] at hcv
  have b0 := bt_range d 0
  have b1 := bt_range d 1
  have b2 := bt_range d 2
  have b3 := bt_range d 3
  have k1 : ∀ W, Calls Try.prog 36 #[.slice (some ⟨W.heap.size, 0, none⟩) 4 (grownCap W 4 0 5), .int .i64 0] (Lib.bytesWorld W 5 (d.extract 0 4)) fun e w' => e = .returned (.tuple #[.int .u16 p, .bool true]) ∧ Drawn0 (Lib.bytesWorld W 5 (d.extract 0 4)) w' := fun W => by
    have := Get16_at W.heap.size 4 (grownCap W 4 0 5) 0 [bt d 0, bt d 1] (Lib.bytesWorld W 5 (d.extract 0 4)) (by omega) (grownCap_ge W 4 0 5) (by omega) rfl (by simp; omega) (fun j hj => by
      rw [Nat.zero_add, ext4_cell d hd W j (by omega)]
      have h : j = 0 ∨ j = 1 := by omega
      rcases h with rfl | rfl <;> rfl)
    rwa [beNum2, ← hp] at this
  have k2 : ∀ W, Calls Try.prog 36 #[.slice (some ⟨W.heap.size, 0, none⟩) 4 (grownCap W 4 0 5), .int .i64 2] (Lib.bytesWorld W 5 (d.extract 0 4)) fun e w' => e = .returned (.tuple #[.int .u16 s, .bool true]) ∧ Drawn0 (Lib.bytesWorld W 5 (d.extract 0 4)) w' := fun W => by
    have := Get16_at W.heap.size 4 (grownCap W 4 0 5) 2 [bt d 2, bt d 3] (Lib.bytesWorld W 5 (d.extract 0 4)) (by omega) (grownCap_ge W 4 0 5) (by omega) rfl (by simp; omega) (fun j hj => by
      rw [ext4_cell d hd W (2 + j) (by omega)]
      have h : j = 0 ∨ j = 1 := by omega
      rcases h with rfl | rfl <;> rfl)
    rwa [beNum2, ← hs] at this
  have l1 : p ≤ 65535 := by omega
  have l2 : s ≤ 65535 := by omega
  clear b0 b1 b2 b3 hp hs
  have K1 := Lib.hid k1
  have K2 := Lib.hid k2
  clear k1 k2
  have f1 : decide ((p : Int) + (s : Int) > (a.size : Int)) = true := decide_eq_true (by omega)
  go_enter Try.func29, Try.ntmps29
  go_wp2_with fail
  refine (K1.out _).mono ?_
  rintro e w1 ⟨rfl, ⟨q1, h1⟩⟩
  have B1 : Below w.heap.size w w1 := by rw [h1]; exact pw_below_drewN (below_bytes (Below.refl _ _) (Nat.le_refl _) _) _
  have HB1 := Lib.hid B1
  clear h1 B1
  go_wp2_with fail
  refine (K2.out _).mono ?_
  rintro e w2 ⟨rfl, ⟨q2, h2⟩⟩
  have B2 : Below w.heap.size w w2 := by rw [h2]; exact pw_below_drewN (below_bytes HB1.out (HB1.out.size) _) _
  have HB2 := Lib.hid B2
  clear h2 B2 HB1
  go_wp2
  go_ret2
  exact ⟨rfl, HB2.out⟩

set_option maxHeartbeats 400000 in
theorem apply_big (a d : ByteArray) (w : World) (ha : a.size > 256) :
    Calls Try.prog 29 #[.string a, .string d] w fun e w' => e = .returned (.tuple #[.string ⟨#[]⟩, .int .i64 40]) ∧ Below w.heap.size w w' := by
  have g1 : decide ((a.size : Int) > 256) = true := decide_eq_true (by omega)
  go_enter Try.func29, Try.ntmps29
  go_wp2
  go_ret2
  exact ⟨rfl, Below.refl _ _⟩
set_option maxHeartbeats 400000 in
theorem apply_short (a d : ByteArray) (w : World) (ha : a.size ≤ 256) (hd : d.size < 4) :
    Calls Try.prog 29 #[.string a, .string d] w fun e w' => e = .returned (.tuple #[.string ⟨#[]⟩, .int .i64 4]) ∧ Below w.heap.size w w' := by
  have g1 : decide ((a.size : Int) > 256) = false := decide_eq_false (by omega)
  have g2 : decide ((d.size : Int) < 4) = true := decide_eq_true (by omega)
  go_enter Try.func29, Try.ntmps29
  go_wp2
  go_ret2
  exact ⟨rfl, Below.refl _ _⟩

def numAt (d : ByteArray) (i : Int) : Nat := (bt d i * 256 + bt d (i + 1)).toNat
def applyF (a d : ByteArray) : ByteArray × Int :=
  if a.size > 256 then (⟨#[]⟩, 40)
  else if d.size < 4 then (⟨#[]⟩, 4)
  else if a.size < numAt d 0 + numAt d 2 then (⟨#[]⟩, 4)
  else match delta_Make.f a (olderS a d (numAt d 0) (numAt d 2)) with
    | some (m1, m2) => if m2 = 0 ∧ m1 = d then (olderS a d (numAt d 0) (numAt d 2), 0) else (⟨#[]⟩, 4)
    | none => (⟨#[]⟩, 4)
def delta_Apply.f (a d : ByteArray) : Option (ByteArray × Int) := if d.size ≤ 4611686018427387904 then some (applyF a d) else none
theorem make_some (a b : ByteArray) : ∃ r, delta_Make.f a b = some r := by
  unfold delta_Make.f
  split
  · exact ⟨_, rfl⟩
  · exact ⟨_, rfl⟩
theorem delta_Apply.calls (a0 : ByteArray) (a1 : ByteArray) (r1 : ByteArray) (r2 : Int) (w : World) (h : delta_Apply.f a0 a1 = some (r1, r2)) :
    Calls Try.prog 29 #[.string a0, .string a1] w fun e w' => e = .returned (.tuple #[.string r1, .int .i64 r2]) ∧ Below w.heap.size w w' := by
  unfold delta_Apply.f at h
  by_cases hd : a1.size ≤ 4611686018427387904
  · rw [if_pos hd] at h
    have e := Option.some.inj h
    unfold applyF at e
    by_cases c1 : a0.size > 256
    · rw [if_pos c1] at e
      cases e
      exact apply_big a0 a1 w c1
    · rw [if_neg c1] at e
      by_cases c2 : a1.size < 4
      · rw [if_pos c2] at e
        cases e
        exact apply_short a0 a1 w (by omega) c2
      · rw [if_neg c2] at e
        have n0 : (numAt a1 0 : Int) = bt a1 0 * 256 + bt a1 1 := by
          have := bt_range a1 0
          have := bt_range a1 1
          unfold numAt
          rw [show (0 : Int) + 1 = 1 from rfl]
          omega
        have n2 : (numAt a1 2 : Int) = bt a1 2 * 256 + bt a1 3 := by
          have := bt_range a1 2
          have := bt_range a1 3
          unfold numAt
          rw [show (2 : Int) + 1 = 3 from rfl]
          omega
        by_cases c3 : a0.size < numAt a1 0 + numAt a1 2
        · rw [if_pos c3] at e
          cases e
          exact apply_far a0 a1 w (by omega) (by omega) _ _ n0 n2 c3
        · rw [if_neg c3] at e
          obtain ⟨⟨m1, m2⟩, hm⟩ := make_some a0 (olderS a0 a1 (numAt a1 0) (numAt a1 2))
          rw [hm] at e
          exact apply_main a0 a1 w (by omega) (by omega) hd _ _ n0 n2 (by omega) m1 m2 hm (r1, r2) e.symm
  · rw [if_neg hd] at h
    simp at h
end Go.Proofs.Ytbhnhbpamndldaa.Delta

/- DeltaLong: the walk. -/
import Derived.Test.YtbhnhbpamndldaaPDeltaLongx1
import Derived.Test.YtbhnhbpamndldaaDeltaMore
namespace Go.Proofs.Ytbhnhbpamndldaa.Long
open Go.RowKit Go.Proofs.YtbhnhbpamndldaaW.PrintWords Go.Proofs.YtbhnhbpamndldaaW.PrintLast Go.Proofs.YtbhnhbpamndldaaW.PrintMore
open Go.Proofs.Ytbhnhbpamndldaa.Delta Go.Proofs.Ytbhnhbpamndldaa.Bits
set_option linter.unusedVariables false
set_option linter.unusedSimpArgs false

theorem awake_at (w : World) : Calls Try.prog 26 #[] w fun e w' => e = .returned (.bool true) ∧ Below w.heap.size w w' :=
  PDeltaLong.ferrymanlaw07_awake.calls true w (by decide +kernel)

set_option maxHeartbeats 1000000 in
theorem long_big (a b : ByteArray) (x y : Int) (w : World) (h : a.size > 256 ∨ b.size > 256) :
    Calls Try.prog 14 #[.string a, .string b, .int .i64 x, .int .u8 y] w fun e w' => e = .returned (.bool true) ∧ Below w.heap.size w w' := by
  by_cases h1 : a.size > 256
  · have g1 : decide ((a.size : Int) > 256) = true := decide_eq_true (by omega)
    go_enter Try.func14, Try.ntmps14
    go_wp2_with (go_at_call 26; refine (awake_at _).mono ?_; rintro e w' ⟨rfl, hb⟩)
    go_ret
    exact ⟨rfl, hb⟩
  · have g1 : decide ((a.size : Int) > 256) = false := decide_eq_false (by omega)
    have g2 : decide ((b.size : Int) > 256) = true := decide_eq_true (by omega)
    go_enter Try.func14, Try.ntmps14
    go_wp2_with (go_at_call 26; refine (awake_at _).mono ?_; rintro e w' ⟨rfl, hb⟩)
    go_ret
    exact ⟨rfl, hb⟩

set_option maxHeartbeats 1000000 in
theorem long_skip (a b : ByteArray) (x y : Int) (w : World) (ha : a.size ≤ 256) (hb : b.size ≤ 256) (d1 d2 : ByteArray) (m1 : delta_Make.f a b = some (d1, 0)) (m2 : delta_Make.f b b = some (d2, 0)) (z1 : d1.size ≤ 4 + b.size) (z2 : d2.size = 4) (h : b.size = 0 ∨ y = 0) :
    Calls Try.prog 14 #[.string a, .string b, .int .i64 x, .int .u8 y] w fun e w' => e = .returned (.bool true) ∧ Below w.heap.size w w' := by
  have g1 : decide ((a.size : Int) > 256) = false := decide_eq_false (by omega)
  have g2 : decide ((b.size : Int) > 256) = false := decide_eq_false (by omega)
  have g3 : decide ((d1.size : Int) > 4 + (b.size : Int)) = false := decide_eq_false (by omega)
  have M1 := Lib.hid m1
  have M2 := Lib.hid m2
  clear m1 m2
  go_enter Try.func14, Try.ntmps14
  go_wp2_with fail
  refine (awake_at _).mono ?_
  rintro e w1 ⟨rfl, h1⟩
  have B1 := Lib.hid h1
  clear h1
  go_wp2_with fail
  refine (delta_Make.calls a b d1 0 _ M1.out).mono ?_
  rintro e w2 ⟨rfl, h2⟩
  have B2 : Hid (Below w.heap.size w w2) := below_then B1.out (B1.out.size) h2
  clear h2 B1
  go_wp2_with fail
  refine (delta_Make.calls b b d2 0 _ M2.out).mono ?_
  rintro e w3 ⟨rfl, h3⟩
  have B3 : Hid (Below w.heap.size w w3) := below_then B2.out (B2.out.size) h3
  clear h3 B2
  rcases Nat.eq_zero_or_pos b.size with hb0 | hb0
  · have k1 : decide ((b.size : Int) = 0) = true := decide_eq_true (by omega)
    go_wp2
    go_ret
    exact ⟨rfl, B3.out⟩
  · have k1 : decide ((b.size : Int) = 0) = false := decide_eq_false (by omega)
    have k1' : ((b.size : Int) == 0) = false := beq_eq_false_iff_ne.2 (by omega)
    have k2 : (y == 0) = true := beq_iff_eq.2 (by omega)
    clear h
    go_wp2
    go_ret
    exact ⟨rfl, B3.out⟩

theorem bytes_frozen (W : World) (s : ByteArray) (k : Nat) (hk : k < s.size) : (Lib.bytesWorld W 5 s).frozen? ⟨W.heap.size, k, none⟩ = false := by
  have h := Lib.bytesWorld_at_new W 5 s
  simp [World.frozen?, h, Lib.bytesCells]
  omega
/-- The bytes of b, the one at k replaced. -/
def flipL (b : ByteArray) (k : Nat) (z : Int) : List Int := (List.range b.size).map fun j => if j = k then z else bt b (j : Int)
theorem flipL_length (b : ByteArray) (k : Nat) (z : Int) : (flipL b k z).length = b.size := by simp [flipL]
theorem flipL_at (b : ByteArray) (k : Nat) (z : Int) (j : Nat) (hj : j < b.size) : (flipL b k z).getD j 0 = if j = k then z else bt b (j : Int) := by
  simp [flipL, List.getD_eq_getElem?_getD, hj]
theorem cell_bt (W : World) (b : ByteArray) (j : Nat) (hj : j < b.size) : (Lib.bytesWorld W 5 b).cell? ⟨W.heap.size, j, none⟩ = some (.int .u8 (bt b (j : Int))) := by
  rw [Lib.bytesWorld_cell W 5 b j hj]
  have e : b.data.toList.getD j 0 = b[j] := by
    have hj2 : j < b.data.size := hj
    rw [List.getD_eq_getElem?_getD, Array.getElem?_toList, Array.getElem?_eq_getElem hj2]
    rfl
  rw [e]
  simp [bt, hj]
theorem conv_flip (W : World) (b : ByteArray) (k : Nat) (z : Int) (hk : k < b.size) (cap : Nat) :
    (convert 33 9 (.slice (some ⟨W.heap.size, 0, none⟩) b.size cap)).run Try.prog ((Lib.bytesWorld W 5 b).setCell ⟨W.heap.size, k, none⟩ (.int .u8 z)) = .ok (.string (strOfNums (flipL b k z))) ((Lib.bytesWorld W 5 b).setCell ⟨W.heap.size, k, none⟩ (.int .u8 z)) :=
  run_convert_bytes_arg _ 33 5 Try.underlying33 Try.underlying5 W.heap.size 0 b.size cap (flipL b k z) (flipL_length b k z) (fun j hj => by
    rw [Nat.zero_add, flipL_at b k z j hj]
    by_cases e : j = k
    · subst e
      rw [if_pos rfl]
      exact World.cell?_setCell_same _ _ _ (cell_bt W b j hj)
    · rw [if_neg e, World.cell?_setCell_other _ _ _ _ (by intro h; injection h with _ h2; exact e h2.symm)]
      exact cell_bt W b j hj) 9 Try.underlying9

set_option maxHeartbeats 2000000 in
theorem long_main (a b : ByteArray) (x y : Int) (w : World) (ha : a.size ≤ 256) (hb : b.size ≤ 256) (d1 d2 : ByteArray) (m1 : delta_Make.f a b = some (d1, 0)) (m2 : delta_Make.f b b = some (d2, 0)) (z1 : d1.size ≤ 4 + b.size) (z2 : d2.size = 4)
    (hb0 : 0 < b.size) (hy : y ≠ 0) (k : Nat) (hk : k < b.size) (hkx : wrap64 ((IntKind.u64.wrap x).tmod (b.size : Int)) = (k : Int)) (z : Int) (hz : Go.bits BinOp.xor IntKind.u8 (bt b (k : Int)) y = z)
    (d3 : ByteArray) (m3 : delta_Make.f (strOfNums (flipL b k z)) b = some (d3, 0)) (z3 : d3.size = 5) (hd : bt d3 4 = bt b (k : Int)) :
    Calls Try.prog 14 #[.string a, .string b, .int .i64 x, .int .u8 y] w fun e w' => e = .returned (.bool true) ∧ Below w.heap.size w w' := by
  have g1 : decide ((a.size : Int) > 256) = false := decide_eq_false (by omega)
  have g2 : decide ((b.size : Int) > 256) = false := decide_eq_false (by omega)
  have g3 : decide ((d1.size : Int) > 4 + (b.size : Int)) = false := decide_eq_false (by omega)
  have k1 : decide ((b.size : Int) = 0) = false := decide_eq_false (by omega)
  have k1' : ((b.size : Int) == 0) = false := beq_eq_false_iff_ne.2 (by omega)
  have k2 : (y == 0) = false := beq_eq_false_iff_ne.2 hy
  have M1 := Lib.hid m1
  have M2 := Lib.hid m2
  have M3 := Lib.hid m3
  have HD := Lib.hid hd
  clear m1 m2 m3 hd
  go_enter Try.func14, Try.ntmps14
  go_wp2_with fail
  refine (awake_at _).mono ?_
  rintro e w1 ⟨rfl, h1⟩
  have B1 := Lib.hid h1
  clear h1
  go_wp2_with fail
  refine (delta_Make.calls a b d1 0 _ M1.out).mono ?_
  rintro e w2 ⟨rfl, h2⟩
  have B2 : Hid (Below w.heap.size w w2) := below_then B1.out (B1.out.size) h2
  clear h2 B1
  go_wp2_with fail
  refine (delta_Make.calls b b d2 0 _ M2.out).mono ?_
  rintro e w3 ⟨rfl, h3⟩
  have B3 : Hid (Below w.heap.size w w3) := below_then B2.out (B2.out.size) h3
  clear h3 B2
  go_upto_region 10 with (fail)
  rw [hkx]
  have hcv := fun (W : World) => Lib.run_convert_string_bytes (P := Try.prog) W 9 33 5 b Try.underlying9 Try.underlying33 Try.underlying5
  have hcell := cell_bt w3 b k hk
  have hfz := bytes_frozen w3 b k hk
  go_upto_region 12 with (fail)
  clear hcv hcell hfz
  have hcv := conv_flip w3 b k z hk (grownCap w3 b.size 0 5)
  have B4 : Hid (Below w.heap.size w ((Lib.bytesWorld w3 5 b).setCell ⟨w3.heap.size, k, none⟩ (.int .u8 z))) := Lib.hid ((below_bytes B3.out B3.out.size b).setCell (p := ⟨w3.heap.size, k, none⟩) B3.out.size _)
  generalize ((Lib.bytesWorld w3 5 b).setCell ⟨w3.heap.size, k, none⟩ (.int .u8 z)) = W4 at *
  go_wp2_with fail
  refine (delta_Make.calls _ b d3 0 _ M3.out).mono ?_
  rintro e w5 ⟨rfl, h5⟩
  have B5 : Hid (Below w.heap.size w w5) := below_then B4.out (B4.out.size) h5
  clear h5 B4 hcv
  have t1 : ((d3.size : Int) == 5) = true := beq_iff_eq.2 (by omega)
  have t2 := HD.out
  have t3 : 4 < d3.size := by omega
  go_wp2_with fail
  go_quiet (fail)
  go_wp2
  go_ret
  refine ⟨?_, pw_below_drewN B5.out _⟩
  have q := HD.out
  have e4 : bt d3 4 = ((d3[4]'t3).toNat : Int) := by simp [bt, t3]
  have ek : bt b (k : Int) = ((b[k]'hk).toNat : Int) := by simp [bt, hk]
  rw [e4, ek] at q
  show Ending.returned (Value.bool (((d3[4]'t3).toNat : Int) == ((b[k]'hk).toNat : Int))) = _
  rw [q]
  simp
end Go.Proofs.Ytbhnhbpamndldaa.Long

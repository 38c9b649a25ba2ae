/- BitsRow: the walk. -/
import Derived.Test.YtbhnhbpamndldaaPBitsRowx1
import Derived.Test.YtbhnhbpamndldaaRow14
import Derived.RegionTactic
import Derived.ChangeAlike
namespace Go.Proofs.Ytbhnhbpamndldaa.Row14
open Go.RowKit Go.Proofs.YtbhnhbpamndldaaW.PrintWords Go.Proofs.YtbhnhbpamndldaaW.PrintLast Go.Proofs.YtbhnhbpamndldaaW.PrintMore
open Go.Proofs.Ytbhnhbpamndldaa.Bits Go.Proofs.Ytbhnhbpamndldaa.Delta
set_option linter.unusedVariables false
set_option linter.unusedSimpArgs false

theorem awake_at (w : World) : Calls Try.prog 20 #[] w fun e w' => e = .returned (.bool true) ∧ Below w.heap.size w w' :=
  PBitsRow.ferrymanlaw01_awake.calls 9 true w (by decide +kernel)

theorem row_made (W : World) : Row (W.alloc (.cells (madeCells #[.int .u8 0] 14) 5)) W.heap.size (fun _ => 0) := by
  have hb := heap_alloc_new W (.cells (madeCells #[.int .u8 0] 14) 5)
  intro j hj
  refine ⟨?_, frozen_of_row _ _ j _ 5 hb⟩
  rw [cell_of_row _ _ j _ 5 (0, 0) hb]
  simp [madeCells, hj, Nat.mod_one]
theorem Row.of {W W' : World} {g : Nat} {f : Nat → Int} (h : Row W g f) (e : W'.heap[g]? = W.heap[g]?) : Row W' g f := fun j hj =>
  ⟨(World.cell?_of_block (a := ⟨g, j, none⟩) e).trans (h j hj).1, (World.frozen?_of_block (a := ⟨g, j, none⟩) e).trans (h j hj).2⟩
theorem both_new (w : World) : Both w.heap.size w ((w.alloc (.cells (madeCells #[.int .u8 0] 14) 5)).alloc (.cells (madeCells #[.int .u8 0] 14) 5)).drew w.heap.size (fun _ => 0) (w.heap.size + 1) (fun _ => 0) := by
  have hs : (w.alloc (.cells (madeCells #[.int .u8 0] 14) 5)).heap.size = w.heap.size + 1 := by simp [World.alloc, -World.alloc_eq]
  have r1 := row_made w
  have r2 := row_made (w.alloc (.cells (madeCells #[.int .u8 0] 14) 5))
  rw [hs] at r2
  have b1 := (Below.refl w.heap.size w).alloc (Nat.le_refl _) (.cells (madeCells #[.int .u8 0] 14) 5)
  have b2 := b1.alloc (by rw [hs]; omega) (.cells (madeCells #[.int .u8 0] 14) 5)
  refine ⟨r1.of ?_, r2.of rfl, by omega, Nat.le_refl _, by omega, Below.drew b2⟩
  show ((w.alloc (.cells (madeCells #[.int .u8 0] 14) 5)).alloc (.cells (madeCells #[.int .u8 0] 14) 5)).heap[w.heap.size]? = _
  have e := (Below.refl (w.heap.size + 1) (w.alloc (.cells (madeCells #[.int .u8 0] 14) 5))).alloc (by rw [hs]; omega) (.cells (madeCells #[.int .u8 0] 14) 5)
  exact e.block _ (by omega)

theorem upd_in (f : Nat → Int) (o : Nat) (bs : List Int) (i : Nat) (hi : i < bs.length) : upd f o bs (o + i) = bs.getD i 0 := by
  unfold upd
  rw [if_pos (by omega), show o + i - o = i by omega]
theorem upd_out (f : Nat → Int) (o : Nat) (bs : List Int) (j : Nat) (hj : j < o ∨ o + bs.length ≤ j) : upd f o bs j = f j := by
  unfold upd
  rw [if_neg (by omega)]
theorem conv_part {W : World} {g : Nat} {f : Nat → Int} (h : Row W g f) (o n cap : Nat) (bs : List Int) (hl : bs.length = n) (ho : o + n ≤ 14) (hf : ∀ i, i < n → f (o + i) = bs.getD i 0) :
    ∀ d os, (convert 33 9 (.slice (some ⟨g, o, none⟩) n cap)).run Try.prog (Sort.grow (redrawn W d) os) = .ok (.string (strOfNums bs)) (Sort.grow (redrawn W d) os) := fun d os =>
  run_convert_bytes_arg _ 33 5 Try.underlying33 Try.underlying5 g o n cap bs hl (fun i hi => by
    rw [cell_regrown (h (o + i) (by omega)).1, hf i hi]) 9 Try.underlying9
theorem conv_all {W : World} {g : Nat} {x p q : Int} (h : Row W g (upd (upd (upd (fun _ => 0) 0 (be64 x)) 8 (be32 p)) 12 (be16 q))) :
    (∀ d os, (convert 33 9 (.slice (some ⟨g, 0, none⟩) 8 14)).run Try.prog (Sort.grow (redrawn W d) os) = .ok (.string (strOfNums (be64 x))) (Sort.grow (redrawn W d) os)) ∧
    (∀ d os, (convert 33 9 (.slice (some ⟨g, 8, none⟩) 4 6)).run Try.prog (Sort.grow (redrawn W d) os) = .ok (.string (strOfNums (be32 p))) (Sort.grow (redrawn W d) os)) ∧
    (∀ d os, (convert 33 9 (.slice (some ⟨g, 12, none⟩) 2 2)).run Try.prog (Sort.grow (redrawn W d) os) = .ok (.string (strOfNums (be16 q))) (Sort.grow (redrawn W d) os)) := by
  have l8 : (be64 x).length = 8 := rfl
  have l4 : (be32 p).length = 4 := rfl
  have l2 : (be16 q).length = 2 := rfl
  refine ⟨conv_part h 0 8 14 _ rfl (by omega) (fun i hi => ?_), conv_part h 8 4 6 _ rfl (by omega) (fun i hi => ?_), conv_part h 12 2 2 _ rfl (by omega) (fun i hi => ?_)⟩
  · rw [upd_out _ _ _ _ (by omega), upd_out _ _ _ _ (by omega), upd_in _ _ _ _ (by omega)]
  · rw [upd_out _ _ _ _ (by omega), upd_in _ _ _ _ (by omega)]
  · rw [upd_in _ _ _ _ (by omega)]

set_option maxHeartbeats 2000000 in
theorem row_main (x y : Int) (w : World) (hx : 0 ≤ x ∧ x < 18446744073709551616) (hy : 0 ≤ y ∧ y < 18446744073709551616) :
    Calls Try.prog 8 #[.int .u64 x, .int .u64 y] w fun e w' => e = .returned (.bool true) ∧ Below w.heap.size w w' := by
  have hmk : ∀ W : World, (Instr.makeSlice 33 (.int .i64 14) (.int .i64 14)).run Try.prog W = .ok (.slice (some ⟨W.heap.size, 0, none⟩) 14 14) (W.alloc (.cells (madeCells #[.int .u8 0] 14) 5)) :=
    print_make (P := Try.prog) 33 5 .u8 1 Try.underlying33 (by kernel_rfl) (by decide) 14 (by decide)
  go_enter Try.func8, Try.ntmps8
  go_upto_region 1 with (fail)
  go_cut [5, 6] (fun v5 v6 wc => ∃ g1 g2 : Nat, v5 = .slice (some ⟨g1, 0, none⟩) 14 14 ∧ v6 = .slice (some ⟨g2, 0, none⟩) 14 14 ∧ Hid (Both w.heap.size w wc g1 (fun _ => 0) g2 (fun _ => 0)))
  case first =>
    have HN := Lib.hid (both_new w)
    go_region
    · go_wp2
      go_meet
      case rel => exact ⟨_, _, rfl, rfl, HN⟩
    · go_wp2
      go_meet
      case rel => exact ⟨_, _, rfl, rfl, Lib.hid HN.out.swap⟩
  case rest =>
    clear hmk
    obtain ⟨g1, g2, rfl, rfl, HR⟩ := hcut
    go_wp2_with fail
    refine (put64 HR.out x hx.1).mono ?_
    rintro e w1 ⟨rfl, h1⟩
    have H1 := Lib.hid h1.swap
    clear h1 HR
    go_wp2_with fail
    refine (put64 H1.out y hy.1).mono ?_
    rintro e w2 ⟨rfl, h2⟩
    have H2 := Lib.hid h2.swap
    clear h2 H1
    go_wp2_with fail
    refine (put32 H2.out (x % 4294967296) (by omega)).mono ?_
    rintro e w3 ⟨rfl, h3⟩
    have H3 := Lib.hid h3.swap
    clear h3 H2
    go_wp2_with fail
    refine (put32 H3.out (y % 4294967296) (by omega)).mono ?_
    rintro e w4 ⟨rfl, h4⟩
    have H4 := Lib.hid h4.swap
    clear h4 H3
    go_wp2_with fail
    refine (put16 H4.out (IntKind.u16.wrap x) (by rw [IntKind.wrap_u16]; omega)).mono ?_
    rintro e w5 ⟨rfl, h5⟩
    have H5 := Lib.hid h5.swap
    clear h5 H4
    go_wp2_with fail
    refine (put16 H5.out (IntKind.u16.wrap y) (by rw [IntKind.wrap_u16]; omega)).mono ?_
    rintro e w6 ⟨rfl, h6⟩
    have H6 := Lib.hid h6.swap
    clear h6 H5
    go_wp2_with fail
    obtain ⟨R1, R2, _, _, _, BW⟩ := H6.out
    have HBW := Lib.hid BW
    obtain ⟨c1, c2, c3⟩ := conv_all R1
    obtain ⟨e1, e2, e3⟩ := conv_all R2
    have L1 : Op.bytesLess (strOfNums (be64 x)).toList (strOfNums (be64 y)).toList = decide (x < y) := by
      rw [less_str (be64 x) (be64 y) (by rfl) (be64_bytes x) (be64_bytes y), numR_64 x hx, numR_64 y hy]
    have L2 : Op.bytesLess (strOfNums (be32 (x % 4294967296))).toList (strOfNums (be32 (y % 4294967296))).toList = decide (IntKind.u32.wrap x < IntKind.u32.wrap y) := by
      rw [IntKind.wrap_u32', IntKind.wrap_u32', less_str (be32 (x % 4294967296)) (be32 (y % 4294967296)) (by rfl) (be32_bytes _) (be32_bytes _), numR_32 _ (by omega), numR_32 _ (by omega)]
    have L3 : Op.bytesLess (strOfNums (be16 (IntKind.u16.wrap x))).toList (strOfNums (be16 (IntKind.u16.wrap y))).toList = decide (IntKind.u16.wrap x < IntKind.u16.wrap y) := by
      rw [less_str (be16 (IntKind.u16.wrap x)) (be16 (IntKind.u16.wrap y)) (by rfl) (be16_bytes _) (be16_bytes _), numR_16 _ (by rw [IntKind.wrap_u16]; omega), numR_16 _ (by rw [IntKind.wrap_u16]; omega)]
    have cw : ∀ d os, Calls Try.prog 20 #[] (Sort.grow (redrawn w6 d) os) fun e w'' => e = .returned (.bool true) ∧ ∃ p : Regrown, w'' = Sort.grow (redrawn w6 p.d) p.os := fun d os => Calls.regrown_of (awake_at _)
    clear R1 R2 BW H6
    refine wp_region_quiet_below (by kernel_rfl) (by kernel_rfl) ?_
    repeat (quiet_step (exact cw _ _))
    refine wpQuiet_nil ?_
    intro _ hw'
    obtain ⟨⟨dq, osq⟩, hw''⟩ := hw'
    subst hw''
    go_wp2
    go_ret
    exact ⟨rfl, HBW.out.trans (by have := below_regrown w6 dq osq; exact ⟨this.os, this.tape, this.output, this.size, fun k hk => this.block k (Nat.lt_of_lt_of_le hk HBW.out.size)⟩)⟩
end Go.Proofs.Ytbhnhbpamndldaa.Row14

-- Written by a program of this session (patch_print.py) over the contracts that its own texts prove; not a print of print.sh.
import Derived.Test.YtbhnhbpamndldaaPDeltaTellsx0
import Derived.Test.YtbhnhbpamndldaaPDeltaTellsx2
namespace Go.Proofs.Ytbhnhbpamndldaa.PDeltaTells
open Go.RowKit Go.Proofs.YtbhnhbpamndldaaW.PrintWords Go.Proofs.YtbhnhbpamndldaaW.PrintLast Go.Proofs.YtbhnhbpamndldaaW.PrintMore Go.Proofs.Ytbhnhbpamndldaa.Delta
attribute [local go_sem] max2_int min2_int max_two min_two max_three min_three max_four min_four   -- for this text's walks alone
set_option linter.unusedVariables false
set_option linter.unusedSimpArgs false

/-! ### ferrymanref07_Apply: function 30 -/
def ferrymanref07_Apply.j0 : Nat → ByteArray → ByteArray → Int → Int → Bool → Option (ByteArray × Int)
  | 0, _, _, _, _, _ => none
  | k + 1, x0, x1, x6, x7, x48 => if x48 = true then (some ((⟨#[]⟩ : ByteArray), 4)) else (if 0 ≤ x6 then (if x6 ≤ (x0.size : Int) then (if 4 ≤ (x1.size : Int) then (if (x0.extract 0 (x6 : Int).toNat).size + (x1.extract 4 x1.size).size ≤ 9223372036854775807 then (if 0 ≤ (wrap64 ((x0.size : Int) - x7)) then (if (wrap64 ((x0.size : Int) - x7)) ≤ (x0.size : Int) then (if ((x0.extract 0 (x6 : Int).toNat) ++ (x1.extract 4 x1.size)).size + (x0.extract ((wrap64 ((x0.size : Int) - x7)) : Int).toNat x0.size).size ≤ 9223372036854775807 then ((ferrymanref07_Make.f k x0 (((x0.extract 0 (x6 : Int).toNat) ++ (x1.extract 4 x1.size)) ++ (x0.extract ((wrap64 ((x0.size : Int) - x7)) : Int).toNat x0.size))).bind fun bt121 => (if bt121.1.toList = x1.toList then (some (((x0.extract 0 (x6 : Int).toNat) ++ (x1.extract 4 x1.size)) ++ (x0.extract ((wrap64 ((x0.size : Int) - x7)) : Int).toNat x0.size), 0)) else (some ((⟨#[]⟩ : ByteArray), 4)))) else (none)) else (none)) else (none)) else (none)) else (none)) else (none)) else (none))
def ferrymanref07_Apply.f (k : Nat) (a0 : ByteArray) (a1 : ByteArray) : Option (ByteArray × Int) := if (a0.size : Int) > 256 then (some ((⟨#[]⟩ : ByteArray), 40)) else (if (a1.size : Int) < 4 then (some ((⟨#[]⟩ : ByteArray), 4)) else (if 0 < (a1.size : Int) then (if 1 < (a1.size : Int) then (if 2 < (a1.size : Int) then (if 3 < (a1.size : Int) then (if (wrap64 ((wrap64 ((wrap64 ((wrap64 (bt a1 0)) * 256)) + (wrap64 (bt a1 1)))) + (wrap64 ((wrap64 ((wrap64 (bt a1 2)) * 256)) + (wrap64 (bt a1 3)))))) > (a0.size : Int) then (ferrymanref07_Apply.j0 k a0 a1 (wrap64 ((wrap64 ((wrap64 (bt a1 0)) * 256)) + (wrap64 (bt a1 1)))) (wrap64 ((wrap64 ((wrap64 (bt a1 2)) * 256)) + (wrap64 (bt a1 3)))) true) else (ferrymanref07_Apply.j0 k a0 a1 (wrap64 ((wrap64 ((wrap64 (bt a1 0)) * 256)) + (wrap64 (bt a1 1)))) (wrap64 ((wrap64 ((wrap64 (bt a1 2)) * 256)) + (wrap64 (bt a1 3)))) (decide ((wrap64 ((wrap64 ((wrap64 ((wrap64 ((wrap64 ((wrap64 (bt a1 0)) * 256)) + (wrap64 (bt a1 1)))) + (wrap64 ((wrap64 ((wrap64 (bt a1 2)) * 256)) + (wrap64 (bt a1 3)))))) + (a1.size : Int))) - 4)) > 256)))) else (none)) else (none)) else (none)) else (none)))
theorem ferrymanref07_Apply.mono_l : ∀ k, (∀ y0 y1 y2 y3 y4, LeO (ferrymanref07_Apply.j0 k y0 y1 y2 y3 y4) (ferrymanref07_Apply.j0 (k + 1) y0 y1 y2 y3 y4))
  | 0 => fun _ _ _ _ _ r h => by simp [ferrymanref07_Apply.j0] at h
  | k + 1 => by
    have ih0 := ferrymanref07_Apply.mono_l k
    · intro y0 y1 y2 y3 y4
      unfold ferrymanref07_Apply.j0
      repeat' first
      | (with_reducible exact ih0 _ _ _ _ _)
      | (with_reducible exact ferrymanref07_Make.mono _ _ _)
      | (with_reducible exact LeO.refl _)
      | (with_reducible exact LeO.none _)
      | (with_reducible refine LeO.ite ?_ ?_)
      | (with_reducible refine LeO.bind ?_ (fun _ => ?_))
      | exact ih0 _ _ _ _ _
      | exact ferrymanref07_Make.mono _ _ _
      | exact LeO.none _
      | refine LeO.ite ?_ ?_
      | refine LeO.bind ?_ (fun _ => ?_)
theorem ferrymanref07_Apply.mono : ∀ a0 a1 k, LeO (ferrymanref07_Apply.f k a0 a1) (ferrymanref07_Apply.f (k + 1) a0 a1) := by
  intro a0 a1 k
  have ih0 := ferrymanref07_Apply.mono_l k
  unfold ferrymanref07_Apply.f
  repeat' first
      | (with_reducible exact ih0 _ _ _ _ _)
      | (with_reducible exact ferrymanref07_Make.mono _ _ _)
      | (with_reducible exact LeO.refl _)
      | (with_reducible exact LeO.none _)
      | (with_reducible refine LeO.ite ?_ ?_)
      | (with_reducible refine LeO.bind ?_ (fun _ => ?_))
      | exact ih0 _ _ _ _ _
      | exact ferrymanref07_Make.mono _ _ _
      | exact LeO.none _
      | refine LeO.ite ?_ ?_
      | refine LeO.bind ?_ (fun _ => ?_)
set_option maxHeartbeats 8000000 in
set_option maxRecDepth 100000 in
theorem ferrymanref07_Apply.calls (k : Nat) (a0 : ByteArray) (a1 : ByteArray) (r1 : ByteArray) (r2 : Int) (w : World) (h : ferrymanref07_Apply.f k a0 a1 = some (r1, r2)) :
    Calls Try.prog 30 #[.string a0, .string a1] w fun e w' => e = .returned (.tuple #[.string r1, .int .i64 r2]) ∧ Below w.heap.size w w' := by
  have HB := Aside0.mk (Below.refl w.heap.size w)
  have H : (if (a0.size : Int) > 256 then (some ((⟨#[]⟩ : ByteArray), 40)) else (if (a1.size : Int) < 4 then (some ((⟨#[]⟩ : ByteArray), 4)) else (if 0 < (a1.size : Int) then (if 1 < (a1.size : Int) then (if 2 < (a1.size : Int) then (if 3 < (a1.size : Int) then (if (wrap64 ((wrap64 ((wrap64 ((wrap64 (bt a1 0)) * 256)) + (wrap64 (bt a1 1)))) + (wrap64 ((wrap64 ((wrap64 (bt a1 2)) * 256)) + (wrap64 (bt a1 3)))))) > (a0.size : Int) then (ferrymanref07_Apply.j0 k a0 a1 (wrap64 ((wrap64 ((wrap64 (bt a1 0)) * 256)) + (wrap64 (bt a1 1)))) (wrap64 ((wrap64 ((wrap64 (bt a1 2)) * 256)) + (wrap64 (bt a1 3)))) true) else (ferrymanref07_Apply.j0 k a0 a1 (wrap64 ((wrap64 ((wrap64 (bt a1 0)) * 256)) + (wrap64 (bt a1 1)))) (wrap64 ((wrap64 ((wrap64 (bt a1 2)) * 256)) + (wrap64 (bt a1 3)))) (decide ((wrap64 ((wrap64 ((wrap64 ((wrap64 ((wrap64 ((wrap64 (bt a1 0)) * 256)) + (wrap64 (bt a1 1)))) + (wrap64 ((wrap64 ((wrap64 (bt a1 2)) * 256)) + (wrap64 (bt a1 3)))))) + (a1.size : Int))) - 4)) > 256)))) else (none)) else (none)) else (none)) else (none)))) = some (r1, r2) := h
  clear h
  by_cases c3 : (a0.size : Int) > 256
  · rw [if_pos c3] at H
    have c3b0 : decide (256 < (a0.size : Int)) = true := decide_eq_true c3
    have c3b1 : decide (256 < a0.size) = true := decide_eq_true (by omega)
    clear c3
    simp only [Option.some.injEq, Prod.mk.injEq] at H
    obtain ⟨rfl, rfl⟩ := H
    go_enter Try.func30, Try.ntmps30
    go_wp2
    repeat (go_quiet (fail); try go_wp2)
    go_ret2
    exact ⟨by first | rfl | (simp [errW_none, errW_some] <;> rfl) | (simp [*, errW_none, errW_some] <;> rfl), by repeat (first | (with_reducible first | exact HB.out | apply below_alloc | apply pw_below_drewN | apply below_drew1) | exact HB.out)⟩
  · rw [if_neg c3] at H
    have c3b0 : decide (256 < (a0.size : Int)) = false := decide_eq_false c3
    have c3b1 : decide (256 < a0.size) = false := decide_eq_false (by omega)
    clear c3
    by_cases c4 : (a1.size : Int) < 4
    · rw [if_pos c4] at H
      have c4b0 : decide ((a1.size : Int) < 4) = true := decide_eq_true c4
      have c4b1 : decide (a1.size < 4) = true := decide_eq_true (by omega)
      clear c4
      simp only [Option.some.injEq, Prod.mk.injEq] at H
      obtain ⟨rfl, rfl⟩ := H
      go_enter Try.func30, Try.ntmps30
      go_wp2
      repeat (go_quiet (fail); try go_wp2)
      go_ret2
      exact ⟨by first | rfl | (simp [errW_none, errW_some] <;> rfl) | (simp [*, errW_none, errW_some] <;> rfl), by repeat (first | (with_reducible first | exact HB.out | apply below_alloc | apply pw_below_drewN | apply below_drew1) | exact HB.out)⟩
    · rw [if_neg c4] at H
      have c4b0 : decide ((a1.size : Int) < 4) = false := decide_eq_false c4
      have c4b1 : decide (a1.size < 4) = false := decide_eq_false (by omega)
      clear c4
      by_cases c5 : 0 < (a1.size : Int)
      · rw [if_pos c5] at H
        have c5b0 : decide (0 < (a1.size : Int)) = true := decide_eq_true c5
        have c5b1 : decide (0 < a1.size) = true := decide_eq_true (by omega)
        clear c5
        by_cases c7 : 1 < (a1.size : Int)
        · rw [if_pos c7] at H
          have c7b0 : decide (1 < (a1.size : Int)) = true := decide_eq_true c7
          have c7b1 : decide (1 < a1.size) = true := decide_eq_true (by omega)
          clear c7
          by_cases c9 : 2 < (a1.size : Int)
          · rw [if_pos c9] at H
            have c9b0 : decide (2 < (a1.size : Int)) = true := decide_eq_true c9
            have c9b1 : decide (2 < a1.size) = true := decide_eq_true (by omega)
            clear c9
            by_cases c11 : 3 < (a1.size : Int)
            · rw [if_pos c11] at H
              have c11b0 : decide (3 < (a1.size : Int)) = true := decide_eq_true c11
              have c11b1 : decide (3 < a1.size) = true := decide_eq_true (by omega)
              clear c11
              have HC13 := Aside0.mk H
              clear H
              have p6 : 0 ≤ (0 : Int) := (by omega)
              have q6 : 0 < a1.size := (by have : (0 : Int) < (a1.size : Int) := of_decide_eq_true (by first | (with_reducible assumption) | assumption); omega)
              have hx6 : ∀ h : 0 < a1.size, ((a1[0]'h).toNat : Int) = bt a1 0 := bt_at a1 0
              clear p6
              have qi6 : (0 < (a1.size : Int)) = True := eq_true (of_decide_eq_true (by first | (with_reducible assumption) | assumption))
              replace q6 := eq_true q6
              have p8 : 0 ≤ (1 : Int) := (by omega)
              have q8 : 1 < a1.size := (by have : (1 : Int) < (a1.size : Int) := of_decide_eq_true (by first | (with_reducible assumption) | assumption); omega)
              have hx8 : ∀ h : 1 < a1.size, ((a1[1]'h).toNat : Int) = bt a1 1 := bt_at a1 1
              clear p8
              have qi8 : (1 < (a1.size : Int)) = True := eq_true (of_decide_eq_true (by first | (with_reducible assumption) | assumption))
              replace q8 := eq_true q8
              have p10 : 0 ≤ (2 : Int) := (by omega)
              have q10 : 2 < a1.size := (by have : (2 : Int) < (a1.size : Int) := of_decide_eq_true (by first | (with_reducible assumption) | assumption); omega)
              have hx10 : ∀ h : 2 < a1.size, ((a1[2]'h).toNat : Int) = bt a1 2 := bt_at a1 2
              clear p10
              have qi10 : (2 < (a1.size : Int)) = True := eq_true (of_decide_eq_true (by first | (with_reducible assumption) | assumption))
              replace q10 := eq_true q10
              have p12 : 0 ≤ (3 : Int) := (by omega)
              have q12 : 3 < a1.size := (by have : (3 : Int) < (a1.size : Int) := of_decide_eq_true (by first | (with_reducible assumption) | assumption); omega)
              have hx12 : ∀ h : 3 < a1.size, ((a1[3]'h).toNat : Int) = bt a1 3 := bt_at a1 3
              clear p12
              have qi12 : (3 < (a1.size : Int)) = True := eq_true (of_decide_eq_true (by first | (with_reducible assumption) | assumption))
              replace q12 := eq_true q12
              go_enter Try.func30, Try.ntmps30
              go_upto_region 7 with (fail)
              repeat (go_quiet (fail); go_upto_region 7 with (fail))
              go_cut [48] (fun v48 wc => ∃ (kq : Nat) (x48_12 : Bool), v48 = .bool x48_12 ∧ Aside0 (ferrymanref07_Apply.j0 kq a0 a1 (wrap64 ((wrap64 ((wrap64 (bt a1 0)) * 256)) + (wrap64 (bt a1 1)))) (wrap64 ((wrap64 ((wrap64 (bt a1 2)) * 256)) + (wrap64 (bt a1 3)))) x48_12 = some (r1, r2)) ∧ Aside0 (kq ≤ k) ∧ Aside0 (Below w.heap.size w wc))
              case first =>
                have H := HC13.out
                clear HC13
                by_cases c14 : (wrap64 ((wrap64 ((wrap64 ((wrap64 (bt a1 0)) * 256)) + (wrap64 (bt a1 1)))) + (wrap64 ((wrap64 ((wrap64 (bt a1 2)) * 256)) + (wrap64 (bt a1 3)))))) > (a0.size : Int)
                · rw [if_pos c14] at H
                  have c14b0 : decide ((a0.size : Int) < (wrap64 ((wrap64 ((wrap64 ((wrap64 (bt a1 0)) * 256)) + (wrap64 (bt a1 1)))) + (wrap64 ((wrap64 ((wrap64 (bt a1 2)) * 256)) + (wrap64 (bt a1 3))))))) = true := decide_eq_true c14
                  clear c14
                  (first | rw [c14b0] | (simp only [i64_w, i32_w]; rw [c14b0]) | skip)
                  have H' := Aside0.mk H
                  clear H
                  go_wp2
                  repeat (go_quiet (fail); try go_wp2)
                  go_meet
                  case rel => exact ⟨_, (true), (by first | rfl | (simp; done) | (simp [*]; done)), H', ⟨by first | omega | exact Nat.le_refl _⟩, ⟨by repeat (first | (with_reducible first | exact HB.out | apply below_alloc | apply pw_below_drewN | apply below_drew1) | exact HB.out)⟩⟩
                · rw [if_neg c14] at H
                  have c14b0 : decide ((a0.size : Int) < (wrap64 ((wrap64 ((wrap64 ((wrap64 (bt a1 0)) * 256)) + (wrap64 (bt a1 1)))) + (wrap64 ((wrap64 ((wrap64 (bt a1 2)) * 256)) + (wrap64 (bt a1 3))))))) = false := decide_eq_false c14
                  clear c14
                  (first | rw [c14b0] | (simp only [i64_w, i32_w]; rw [c14b0]) | skip)
                  have H' := Aside0.mk H
                  clear H
                  go_wp2
                  repeat (go_quiet (fail); try go_wp2)
                  go_meet
                  case rel => exact ⟨_, (decide ((wrap64 ((wrap64 ((wrap64 ((wrap64 ((wrap64 ((wrap64 (bt a1 0)) * 256)) + (wrap64 (bt a1 1)))) + (wrap64 ((wrap64 ((wrap64 (bt a1 2)) * 256)) + (wrap64 (bt a1 3)))))) + (a1.size : Int))) - 4)) > 256)), (by first | rfl | (simp; done) | (simp [*]; done)), H', ⟨by first | omega | exact Nat.le_refl _⟩, ⟨by repeat (first | (with_reducible first | exact HB.out | apply below_alloc | apply pw_below_drewN | apply below_drew1) | exact HB.out)⟩⟩
              case rest =>
                clear HC13
                try clear c1
                try clear p1
                try clear q1
                try clear hx1
                try clear qi1
                try clear p2
                try clear c3
                try clear c3b0
                try clear c3b1
                try clear c4
                try clear c4b0
                try clear c4b1
                try clear c5
                try clear c5b0
                try clear c5b1
                try clear p6
                try clear q6
                try clear hx6
                try clear qi6
                try clear c7
                try clear c7b0
                try clear c7b1
                try clear p8
                try clear q8
                try clear hx8
                try clear qi8
                try clear c9
                try clear c9b0
                try clear c9b1
                try clear p10
                try clear q10
                try clear hx10
                try clear qi10
                try clear c11
                try clear c11b0
                try clear c11b1
                try clear p12
                try clear q12
                try clear hx12
                try clear qi12
                try clear c14
                try clear c14b0
                try clear p10
                try clear p12
                try clear p6
                try clear p8
                try clear q10
                try clear q12
                try clear q6
                try clear q8
                obtain ⟨kq, x48_12, rfl, HA, HJ12, HB⟩ := hcut
                cases kq with
                | zero => exact absurd HA.out (by simp [ferrymanref07_Apply.j0])
                | succ kj12 =>
                  have H := HA.out
                  clear HA
                  simp only [ferrymanref07_Apply.j0] at H
                  by_cases c15 : x48_12 = true
                  · subst c15
                    have H1 : (some ((⟨#[]⟩ : ByteArray), 4)) = some (r1, r2) := by rw [if_pos rfl] at H; exact H
                    clear H
                    have H := H1
                    clear H1
                    simp only [Option.some.injEq, Prod.mk.injEq] at H
                    obtain ⟨rfl, rfl⟩ := H
                    go_wp2
                    repeat (go_quiet (fail); try go_wp2)
                    go_ret2
                    exact ⟨by first | rfl | (simp [errW_none, errW_some] <;> rfl) | (simp [*, errW_none, errW_some] <;> rfl), by repeat (first | (with_reducible first | exact HB.out | apply below_alloc | apply pw_below_drewN | apply below_drew1) | exact HB.out)⟩
                  · replace c15 := Bool.eq_false_iff.mpr c15
                    subst c15
                    have H1 : (if 0 ≤ (wrap64 ((wrap64 ((wrap64 (bt a1 0)) * 256)) + (wrap64 (bt a1 1)))) then (if (wrap64 ((wrap64 ((wrap64 (bt a1 0)) * 256)) + (wrap64 (bt a1 1)))) ≤ (a0.size : Int) then (if 4 ≤ (a1.size : Int) then (if (a0.extract 0 ((wrap64 ((wrap64 ((wrap64 (bt a1 0)) * 256)) + (wrap64 (bt a1 1)))) : Int).toNat).size + (a1.extract 4 a1.size).size ≤ 9223372036854775807 then (if 0 ≤ (wrap64 ((a0.size : Int) - (wrap64 ((wrap64 ((wrap64 (bt a1 2)) * 256)) + (wrap64 (bt a1 3)))))) then (if (wrap64 ((a0.size : Int) - (wrap64 ((wrap64 ((wrap64 (bt a1 2)) * 256)) + (wrap64 (bt a1 3)))))) ≤ (a0.size : Int) then (if ((a0.extract 0 ((wrap64 ((wrap64 ((wrap64 (bt a1 0)) * 256)) + (wrap64 (bt a1 1)))) : Int).toNat) ++ (a1.extract 4 a1.size)).size + (a0.extract ((wrap64 ((a0.size : Int) - (wrap64 ((wrap64 ((wrap64 (bt a1 2)) * 256)) + (wrap64 (bt a1 3)))))) : Int).toNat a0.size).size ≤ 9223372036854775807 then ((ferrymanref07_Make.f kj12 a0 (((a0.extract 0 ((wrap64 ((wrap64 ((wrap64 (bt a1 0)) * 256)) + (wrap64 (bt a1 1)))) : Int).toNat) ++ (a1.extract 4 a1.size)) ++ (a0.extract ((wrap64 ((a0.size : Int) - (wrap64 ((wrap64 ((wrap64 (bt a1 2)) * 256)) + (wrap64 (bt a1 3)))))) : Int).toNat a0.size))).bind fun bt121 => (if bt121.1.toList = a1.toList then (some (((a0.extract 0 ((wrap64 ((wrap64 ((wrap64 (bt a1 0)) * 256)) + (wrap64 (bt a1 1)))) : Int).toNat) ++ (a1.extract 4 a1.size)) ++ (a0.extract ((wrap64 ((a0.size : Int) - (wrap64 ((wrap64 ((wrap64 (bt a1 2)) * 256)) + (wrap64 (bt a1 3)))))) : Int).toNat a0.size), 0)) else (some ((⟨#[]⟩ : ByteArray), 4)))) else (none)) else (none)) else (none)) else (none)) else (none)) else (none)) else (none)) = some (r1, r2) := by rw [if_neg (show ¬ (false = true) by decide)] at H; exact H
                    clear H
                    have H := H1
                    clear H1
                    obtain ⟨ji16, hji16⟩ : ∃ j_ : Int, (wrap64 ((wrap64 ((wrap64 (bt a1 0)) * 256)) + (wrap64 (bt a1 1)))) = j_ := ⟨_, rfl⟩
                    replace H : (if 0 ≤ (ji16) then (if (ji16) ≤ (a0.size : Int) then (if 4 ≤ (a1.size : Int) then (if (a0.extract 0 ((ji16) : Int).toNat).size + (a1.extract 4 a1.size).size ≤ 9223372036854775807 then (if 0 ≤ (wrap64 ((a0.size : Int) - (wrap64 ((wrap64 ((wrap64 (bt a1 2)) * 256)) + (wrap64 (bt a1 3)))))) then (if (wrap64 ((a0.size : Int) - (wrap64 ((wrap64 ((wrap64 (bt a1 2)) * 256)) + (wrap64 (bt a1 3)))))) ≤ (a0.size : Int) then (if ((a0.extract 0 ((ji16) : Int).toNat) ++ (a1.extract 4 a1.size)).size + (a0.extract ((wrap64 ((a0.size : Int) - (wrap64 ((wrap64 ((wrap64 (bt a1 2)) * 256)) + (wrap64 (bt a1 3)))))) : Int).toNat a0.size).size ≤ 9223372036854775807 then ((ferrymanref07_Make.f kj12 a0 (((a0.extract 0 ((ji16) : Int).toNat) ++ (a1.extract 4 a1.size)) ++ (a0.extract ((wrap64 ((a0.size : Int) - (wrap64 ((wrap64 ((wrap64 (bt a1 2)) * 256)) + (wrap64 (bt a1 3)))))) : Int).toNat a0.size))).bind fun bt121 => (if bt121.1.toList = a1.toList then (some (((a0.extract 0 ((ji16) : Int).toNat) ++ (a1.extract 4 a1.size)) ++ (a0.extract ((wrap64 ((a0.size : Int) - (wrap64 ((wrap64 ((wrap64 (bt a1 2)) * 256)) + (wrap64 (bt a1 3)))))) : Int).toNat a0.size), 0)) else (some ((⟨#[]⟩ : ByteArray), 4)))) else (none)) else (none)) else (none)) else (none)) else (none)) else (none)) else (none)) = some (r1, r2) := by first | (rw [hji16] at H; exact H) | (simp only [hji16] at H ⊢; exact H)
                    have hji16w : (IntKind.i64.wrap ((wrap64 ((wrap64 (bt a1 0)) * 256)) + (wrap64 (bt a1 1)))) = ji16 := (i64_w _).trans hji16
                    by_cases c17 : 0 ≤ (ji16)
                    · rw [if_pos c17] at H
                      have c17b0 := eq_true c17
                      have c17b1 : decide (0 ≤ (ji16)) = true := decide_eq_true c17
                      clear c17
                      by_cases c18 : (ji16) ≤ (a0.size : Int)
                      · rw [if_pos c18] at H
                        have c18b0 := eq_true c18
                        have c18b1 : decide ((ji16) ≤ (a0.size : Int)) = true := decide_eq_true c18
                        clear c18
                        by_cases c19 : 4 ≤ (a1.size : Int)
                        · rw [if_pos c19] at H
                          have c19b0 := eq_true c19
                          have c19b1 : decide (4 ≤ (a1.size : Int)) = true := decide_eq_true c19
                          clear c19
                          by_cases c20 : (a0.extract 0 ((ji16) : Int).toNat).size + (a1.extract 4 a1.size).size ≤ 9223372036854775807
                          · rw [if_pos c20] at H
                            have c20b0 := eq_true c20
                            have c20b1 : decide ((a0.extract 0 ((ji16) : Int).toNat).size + (a1.extract 4 a1.size).size ≤ 9223372036854775807) = true := decide_eq_true c20
                            try have c20b2 : (9223372036854775807 < (a0.extract 0 ((ji16) : Int).toNat).size + (a1.extract 4 a1.size).size) = False := eq_false (Nat.not_lt.2 c20)
                            obtain ⟨ji21, hji21⟩ : ∃ j_ : Int, (wrap64 ((a0.size : Int) - (wrap64 ((wrap64 ((wrap64 (bt a1 2)) * 256)) + (wrap64 (bt a1 3)))))) = j_ := ⟨_, rfl⟩
                            replace H : (if 0 ≤ (ji21) then (if (ji21) ≤ (a0.size : Int) then (if ((a0.extract 0 ((ji16) : Int).toNat) ++ (a1.extract 4 a1.size)).size + (a0.extract ((ji21) : Int).toNat a0.size).size ≤ 9223372036854775807 then ((ferrymanref07_Make.f kj12 a0 (((a0.extract 0 ((ji16) : Int).toNat) ++ (a1.extract 4 a1.size)) ++ (a0.extract ((ji21) : Int).toNat a0.size))).bind fun bt121 => (if bt121.1.toList = a1.toList then (some (((a0.extract 0 ((ji16) : Int).toNat) ++ (a1.extract 4 a1.size)) ++ (a0.extract ((ji21) : Int).toNat a0.size), 0)) else (some ((⟨#[]⟩ : ByteArray), 4)))) else (none)) else (none)) else (none)) = some (r1, r2) := by first | (rw [hji21] at H; exact H) | (simp only [hji21] at H ⊢; exact H)
                            have hji21w : (IntKind.i64.wrap ((a0.size : Int) - (wrap64 ((wrap64 ((wrap64 (bt a1 2)) * 256)) + (wrap64 (bt a1 3)))))) = ji21 := (i64_w _).trans hji21
                            by_cases c22 : 0 ≤ (ji21)
                            · rw [if_pos c22] at H
                              have c22b0 := eq_true c22
                              have c22b1 : decide (0 ≤ (ji21)) = true := decide_eq_true c22
                              clear c22
                              by_cases c23 : (ji21) ≤ (a0.size : Int)
                              · rw [if_pos c23] at H
                                have c23b0 := eq_true c23
                                have c23b1 : decide ((ji21) ≤ (a0.size : Int)) = true := decide_eq_true c23
                                clear c23
                                by_cases c24 : ((a0.extract 0 ((ji16) : Int).toNat) ++ (a1.extract 4 a1.size)).size + (a0.extract ((ji21) : Int).toNat a0.size).size ≤ 9223372036854775807
                                · rw [if_pos c24] at H
                                  have c24b0 := eq_true c24
                                  have c24b1 : decide (((a0.extract 0 ((ji16) : Int).toNat) ++ (a1.extract 4 a1.size)).size + (a0.extract ((ji21) : Int).toNat a0.size).size ≤ 9223372036854775807) = true := decide_eq_true c24
                                  try have c24b2 : (9223372036854775807 < ((a0.extract 0 ((ji16) : Int).toNat) ++ (a1.extract 4 a1.size)).size + (a0.extract ((ji21) : Int).toNat a0.size).size) = False := eq_false (Nat.not_lt.2 c24)
                                  replace H := Option.bind_eq_some_iff.mp H
                                  obtain ⟨⟨t121, t122⟩, A250, H⟩ := H
                                  replace H : (if t121.toList = a1.toList then (some (((a0.extract 0 ((ji16) : Int).toNat) ++ (a1.extract 4 a1.size)) ++ (a0.extract ((ji21) : Int).toNat a0.size), 0)) else (some ((⟨#[]⟩ : ByteArray), 4))) = some (r1, r2) := H
                                  have A25 := Aside0.mk A250
                                  clear A250
                                  by_cases c26 : t121.toList = a1.toList
                                  · rw [if_pos c26] at H
                                    have c26b0 : (t121.toList == a1.toList) = true := beq_iff_eq.mpr c26
                                    have c26b1 : (t121.toList != a1.toList) = false := bne_eq_false_iff_eq.mpr c26
                                    clear c26
                                    simp only [Option.some.injEq, Prod.mk.injEq] at H
                                    obtain ⟨rfl, rfl⟩ := H
                                    go_wp2_with (first | (go_at_call 28; (with_reducible refine (ferrymanref07_Make.calls kj12 a0 (((a0.extract 0 ((ji16) : Int).toNat) ++ (a1.extract 4 a1.size)) ++ (a0.extract ((ji21) : Int).toNat a0.size)) t121 t122 _ A25.out).mono ?_); rintro e w27 ⟨rfl, hb⟩; have n0_ := Aside0.mk (below_step (by repeat (first | (with_reducible first | exact HB.out | apply below_alloc | apply pw_below_drewN | apply below_drew1) | exact HB.out)) hb); clear HB; have HB := n0_; clear n0_; (try clear hb); (try clear hb2); (try clear hk); (try clear hi)))
                                    repeat (go_quiet (first | (go_at_call 28; (with_reducible refine (ferrymanref07_Make.calls kj12 a0 (((a0.extract 0 ((ji16) : Int).toNat) ++ (a1.extract 4 a1.size)) ++ (a0.extract ((ji21) : Int).toNat a0.size)) t121 t122 _ A25.out).mono ?_); rintro e w27 ⟨rfl, hb⟩; have n0_ := Aside0.mk (below_step (by repeat (first | (with_reducible first | exact HB.out | apply below_alloc | apply pw_below_drewN | apply below_drew1) | exact HB.out)) hb); clear HB; have HB := n0_; clear n0_; (try clear hb); (try clear hb2); (try clear hk); (try clear hi))); try go_wp2_with (first | (go_at_call 28; (with_reducible refine (ferrymanref07_Make.calls kj12 a0 (((a0.extract 0 ((ji16) : Int).toNat) ++ (a1.extract 4 a1.size)) ++ (a0.extract ((ji21) : Int).toNat a0.size)) t121 t122 _ A25.out).mono ?_); rintro e w27 ⟨rfl, hb⟩; have n0_ := Aside0.mk (below_step (by repeat (first | (with_reducible first | exact HB.out | apply below_alloc | apply pw_below_drewN | apply below_drew1) | exact HB.out)) hb); clear HB; have HB := n0_; clear n0_; (try clear hb); (try clear hb2); (try clear hk); (try clear hi))))
                                    go_ret2
                                    exact ⟨by first | rfl | (simp [errW_none, errW_some] <;> rfl) | (simp only [← hji16, ← hji21]; first | rfl | (simp [errW_none, errW_some] <;> rfl)) | (simp [*, errW_none, errW_some] <;> rfl), by repeat (first | (with_reducible first | exact HB.out | apply below_alloc | apply pw_below_drewN | apply below_drew1) | exact HB.out)⟩
                                  · rw [if_neg c26] at H
                                    have c26b0 : (t121.toList == a1.toList) = false := beq_eq_false_iff_ne.mpr c26
                                    have c26b1 : (t121.toList != a1.toList) = true := bne_iff_ne.mpr c26
                                    simp only [Option.some.injEq, Prod.mk.injEq] at H
                                    obtain ⟨rfl, rfl⟩ := H
                                    go_wp2_with (first | (go_at_call 28; (with_reducible refine (ferrymanref07_Make.calls kj12 a0 (((a0.extract 0 ((ji16) : Int).toNat) ++ (a1.extract 4 a1.size)) ++ (a0.extract ((ji21) : Int).toNat a0.size)) t121 t122 _ A25.out).mono ?_); rintro e w28 ⟨rfl, hb⟩; have n0_ := Aside0.mk (below_step (by repeat (first | (with_reducible first | exact HB.out | apply below_alloc | apply pw_below_drewN | apply below_drew1) | exact HB.out)) hb); clear HB; have HB := n0_; clear n0_; (try clear hb); (try clear hb2); (try clear hk); (try clear hi)))
                                    repeat (go_quiet (first | (go_at_call 28; (with_reducible refine (ferrymanref07_Make.calls kj12 a0 (((a0.extract 0 ((ji16) : Int).toNat) ++ (a1.extract 4 a1.size)) ++ (a0.extract ((ji21) : Int).toNat a0.size)) t121 t122 _ A25.out).mono ?_); rintro e w28 ⟨rfl, hb⟩; have n0_ := Aside0.mk (below_step (by repeat (first | (with_reducible first | exact HB.out | apply below_alloc | apply pw_below_drewN | apply below_drew1) | exact HB.out)) hb); clear HB; have HB := n0_; clear n0_; (try clear hb); (try clear hb2); (try clear hk); (try clear hi))); try go_wp2_with (first | (go_at_call 28; (with_reducible refine (ferrymanref07_Make.calls kj12 a0 (((a0.extract 0 ((ji16) : Int).toNat) ++ (a1.extract 4 a1.size)) ++ (a0.extract ((ji21) : Int).toNat a0.size)) t121 t122 _ A25.out).mono ?_); rintro e w28 ⟨rfl, hb⟩; have n0_ := Aside0.mk (below_step (by repeat (first | (with_reducible first | exact HB.out | apply below_alloc | apply pw_below_drewN | apply below_drew1) | exact HB.out)) hb); clear HB; have HB := n0_; clear n0_; (try clear hb); (try clear hb2); (try clear hk); (try clear hi))))
                                    go_ret2
                                    exact ⟨by first | rfl | (simp [errW_none, errW_some] <;> rfl) | (simp only [← hji16, ← hji21]; first | rfl | (simp [errW_none, errW_some] <;> rfl)) | (simp [*, errW_none, errW_some] <;> rfl), by repeat (first | (with_reducible first | exact HB.out | apply below_alloc | apply pw_below_drewN | apply below_drew1) | exact HB.out)⟩
                                · rw [if_neg c24] at H
                                  exact absurd H (by simp)
                              · rw [if_neg c23] at H
                                exact absurd H (by simp)
                            · rw [if_neg c22] at H
                              exact absurd H (by simp)
                          · rw [if_neg c20] at H
                            exact absurd H (by simp)
                        · rw [if_neg c19] at H
                          exact absurd H (by simp)
                      · rw [if_neg c18] at H
                        exact absurd H (by simp)
                    · rw [if_neg c17] at H
                      exact absurd H (by simp)
            · rw [if_neg c11] at H
              exact absurd H (by simp)
          · rw [if_neg c9] at H
            exact absurd H (by simp)
        · rw [if_neg c7] at H
          exact absurd H (by simp)
      · rw [if_neg c5] at H
        exact absurd H (by simp)

/-! ### ferrymanref07_Back: function 32 -/
def ferrymanref07_Back.l0 : Nat → ByteArray → List ByteArray → Int → Option (ByteArray × Int)
  | 0, _, _, _ => none
  | k + 1, x0, x1, x6 => if x6 < (x1.length : Int) then (if 0 ≤ x6 then ((ferrymanref07_Apply.f k x0 (rdOf ByteArray.empty x1 x6)).bind fun bt124 => (if bt124.2 = 0 then (ferrymanref07_Back.l0 k bt124.1 x1 (wrap64 (x6 + 1))) else (some ((⟨#[]⟩ : ByteArray), bt124.2)))) else (none)) else (some (x0, 0))
def ferrymanref07_Back.f (k : Nat) (a0 : ByteArray) (l1 : List ByteArray) : Option (ByteArray × Int) := ferrymanref07_Back.l0 k a0 l1 0
theorem ferrymanref07_Back.mono_l : ∀ k, (∀ y0 y1 y2, LeO (ferrymanref07_Back.l0 k y0 y1 y2) (ferrymanref07_Back.l0 (k + 1) y0 y1 y2))
  | 0 => fun _ _ _ r h => by simp [ferrymanref07_Back.l0] at h
  | k + 1 => by
    have ih0 := ferrymanref07_Back.mono_l k
    · intro y0 y1 y2
      unfold ferrymanref07_Back.l0
      repeat' first
      | (with_reducible exact ih0 _ _ _)
      | (with_reducible exact ferrymanref07_Apply.mono _ _ _)
      | (with_reducible exact LeO.refl _)
      | (with_reducible exact LeO.none _)
      | (with_reducible refine LeO.ite ?_ ?_)
      | (with_reducible refine LeO.bind ?_ (fun _ => ?_))
      | exact ih0 _ _ _
      | exact ferrymanref07_Apply.mono _ _ _
      | exact LeO.none _
      | refine LeO.ite ?_ ?_
      | refine LeO.bind ?_ (fun _ => ?_)
theorem ferrymanref07_Back.mono : ∀ a0 a1 k, LeO (ferrymanref07_Back.f k a0 a1) (ferrymanref07_Back.f (k + 1) a0 a1) := by
  intro a0 a1 k
  have ih0 := ferrymanref07_Back.mono_l k
  unfold ferrymanref07_Back.f
  repeat' first
      | (with_reducible exact ih0 _ _ _)
      | (with_reducible exact ferrymanref07_Apply.mono _ _ _)
      | (with_reducible exact LeO.refl _)
      | (with_reducible exact LeO.none _)
      | (with_reducible refine LeO.ite ?_ ?_)
      | (with_reducible refine LeO.bind ?_ (fun _ => ?_))
      | exact ih0 _ _ _
      | exact ferrymanref07_Apply.mono _ _ _
      | exact LeO.none _
      | refine LeO.ite ?_ ?_
      | refine LeO.bind ?_ (fun _ => ?_)
set_option maxHeartbeats 8000000 in
set_option maxRecDepth 100000 in
theorem ferrymanref07_Back.calls (k : Nat) (a0 : ByteArray) (A1 : Option Addr) (c1 : Nat) (l1 : List ByteArray) (r1 : ByteArray) (r2 : Int) (w : World) (hr1 : Kd.C Kd.string w A1 l1.length l1) (hc1 : l1.length ≤ c1) (h : ferrymanref07_Back.f k a0 l1 = some (r1, r2)) :
    Calls Try.prog 32 #[.string a0, .slice A1 l1.length c1] w fun e w' => e = .returned (.tuple #[.string r1, .int .i64 r2]) ∧ Below w.heap.size w w' := by
  have HR1 := Aside0.mk hr1
  have HC1 := Aside0.mk hc1
  clear hr1 hc1
  have HB := Aside0.mk (Below.refl w.heap.size w)
  have H : (ferrymanref07_Back.l0 k a0 l1 0) = some (r1, r2) := h
  clear h
  have H' := Aside0.mk H
  clear H
  go_enter Try.func32, Try.ntmps32
  go_wp2
  go_loopg [0, 6] k (fun kq v0 v6 w' => ∃ (x0_1 : ByteArray) (x6_1 : Int), v0 = .string x0_1 ∧ v6 = .int .i64 x6_1 ∧ Aside0 (ferrymanref07_Back.l0 kq x0_1 l1 x6_1 = some (r1, r2)) ∧ Aside0 (kq ≤ k) ∧ Aside0 (Below w.heap.size w w'))
  case atStart => exact ⟨(a0), (0), (by first | rfl | (simp; done) | (simp [*]; done)), (by first | rfl | (simp; done) | (simp [*]; done)), H', ⟨Nat.le_refl _⟩, ⟨by repeat (first | (with_reducible first | exact HB.out | apply below_alloc | apply pw_below_drewN | apply below_drew1) | exact HB.out)⟩⟩
  case round =>
    clear H'
    try clear c1
    try clear p2
    obtain ⟨x0_1, x6_1, rfl, rfl, HA, HK1, HB⟩ := hrel
    cases gk with
    | zero => exact absurd HA.out (by simp [ferrymanref07_Back.l0])
    | succ k1 =>
      have H := HA.out
      clear HA
      simp only [ferrymanref07_Back.l0] at H
      by_cases c3 : x6_1 < (l1.length : Int)
      · rw [if_pos c3] at H
        have c3b0 : decide (x6_1 < (l1.length : Int)) = true := decide_eq_true c3
        clear c3
        by_cases c4 : 0 ≤ x6_1
        · rw [if_pos c4] at H
          have c4b0 : decide (0 ≤ x6_1) = true := decide_eq_true c4
          clear c4
          replace H := Option.bind_eq_some_iff.mp H
          obtain ⟨⟨t124, t125⟩, A50, H⟩ := H
          replace H : (if t125 = 0 then (ferrymanref07_Back.l0 k1 t124 l1 (wrap64 (x6_1 + 1))) else (some ((⟨#[]⟩ : ByteArray), t125))) = some (r1, r2) := H
          have A5 := Aside0.mk A50
          clear A50
          by_cases c6 : t125 = 0
          · rw [if_pos c6] at H
            have c6b0 : (t125 == 0) = true := beq_iff_eq.mpr c6
            have c6b1 : (t125 != 0) = false := bne_eq_false_iff_eq.mpr c6
            clear c6
            have H' := Aside0.mk H
            clear H
            have p123 : 0 ≤ (x6_1 : Int) := of_decide_eq_true (by first | (with_reducible assumption) | assumption)
            have q123 : x6_1 < (l1.length : Int) := of_decide_eq_true (by first | (with_reducible assumption) | assumption)
            obtain ⟨ad123, e123, hx123_0⟩ := Kd.at_string HR1.out x6_1 p123 q123
            cases e123
            replace hx123_0 := (HB.out.cell (World.block_lt_of_cell? w _ hx123_0)).trans hx123_0
            replace p123 := eq_true p123
            replace q123 := eq_true q123
            go_wp2_with (first | ((with_reducible refine gate_callee (f := 30) rfl ?_); refine goesL_ (some 21) rfl rfl Try.func30 (by kernel_rfl) rfl #[.string x0_1, .string (rdOf ByteArray.empty l1 x6_1)] rfl (by (try simp only [List.map_toArray, List.map_cons, List.map_nil]); first | done | rfl | (simp only [List.length_drop, List.length_take]; rfl)) ?_; (with_reducible refine (ferrymanref07_Apply.calls k1 x0_1 (rdOf ByteArray.empty l1 x6_1) t124 t125 _ A5.out).mono ?_); rintro e w7 ⟨rfl, hb⟩; refine ⟨_, rfl, ?_⟩; have n0_ := Aside0.mk (below_step (by repeat (first | (with_reducible first | exact HB.out | apply below_alloc | apply pw_below_drewN | apply below_drew1) | exact HB.out)) hb); clear HB; have HB := n0_; clear n0_; (try clear hb); (try clear hb2); (try clear hk); (try clear hi)))
            go_roundg k1
            case measure => have := HK1.out; omega
            case rel => exact ⟨(t124), (wrap64 (x6_1 + 1)), (by first | rfl | (simp; done) | (simp [*]; done)), (by first | rfl | (simp; done) | (simp [*]; done)), H', ⟨by have := HK1.out; omega⟩, ⟨by repeat (first | (with_reducible first | exact HB.out | apply below_alloc | apply pw_below_drewN | apply below_drew1) | exact HB.out)⟩⟩
          · rw [if_neg c6] at H
            have c6b0 : (t125 == 0) = false := beq_eq_false_iff_ne.mpr c6
            have c6b1 : (t125 != 0) = true := bne_iff_ne.mpr c6
            simp only [Option.some.injEq, Prod.mk.injEq] at H
            obtain ⟨rfl, rfl⟩ := H
            have p123 : 0 ≤ (x6_1 : Int) := of_decide_eq_true (by first | (with_reducible assumption) | assumption)
            have q123 : x6_1 < (l1.length : Int) := of_decide_eq_true (by first | (with_reducible assumption) | assumption)
            obtain ⟨ad123, e123, hx123_0⟩ := Kd.at_string HR1.out x6_1 p123 q123
            cases e123
            replace hx123_0 := (HB.out.cell (World.block_lt_of_cell? w _ hx123_0)).trans hx123_0
            replace p123 := eq_true p123
            replace q123 := eq_true q123
            go_wp2_with (first | ((with_reducible refine gate_callee (f := 30) rfl ?_); refine goesL_ (some 21) rfl rfl Try.func30 (by kernel_rfl) rfl #[.string x0_1, .string (rdOf ByteArray.empty l1 x6_1)] rfl (by (try simp only [List.map_toArray, List.map_cons, List.map_nil]); first | done | rfl | (simp only [List.length_drop, List.length_take]; rfl)) ?_; (with_reducible refine (ferrymanref07_Apply.calls k1 x0_1 (rdOf ByteArray.empty l1 x6_1) t124 t125 _ A5.out).mono ?_); rintro e w8 ⟨rfl, hb⟩; refine ⟨_, rfl, ?_⟩; have n0_ := Aside0.mk (below_step (by repeat (first | (with_reducible first | exact HB.out | apply below_alloc | apply pw_below_drewN | apply below_drew1) | exact HB.out)) hb); clear HB; have HB := n0_; clear n0_; (try clear hb); (try clear hb2); (try clear hk); (try clear hi)))
            go_ret2
            exact ⟨by first | rfl | (simp [errW_none, errW_some] <;> rfl) | (simp [*, errW_none, errW_some] <;> rfl), by repeat (first | (with_reducible first | exact HB.out | apply below_alloc | apply pw_below_drewN | apply below_drew1) | exact HB.out)⟩
        · rw [if_neg c4] at H
          exact absurd H (by simp)
      · rw [if_neg c3] at H
        have c3b0 : decide (x6_1 < (l1.length : Int)) = false := decide_eq_false c3
        clear c3
        simp only [Option.some.injEq, Prod.mk.injEq] at H
        obtain ⟨rfl, rfl⟩ := H
        go_wp2
        go_ret2
        exact ⟨by first | rfl | (simp [errW_none, errW_some] <;> rfl) | (simp [*, errW_none, errW_some] <;> rfl), by repeat (first | (with_reducible first | exact HB.out | apply below_alloc | apply pw_below_drewN | apply below_drew1) | exact HB.out)⟩

end Go.Proofs.Ytbhnhbpamndldaa.PDeltaTells

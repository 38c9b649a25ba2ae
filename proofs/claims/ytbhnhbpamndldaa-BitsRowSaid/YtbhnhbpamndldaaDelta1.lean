/- delta.same, at value.front and at value.back: how many bytes two strings have the same from an end on. -/
import Derived.Test.YtbhnhbpamndldaaPutget
import Derived.Lib.QuietBelow
import Derived.Deep.QuietTactic
import Derived.BigQuiet
namespace Go.Proofs.Ytbhnhbpamndldaa.Delta
open Go.RowKit Go.Proofs.YtbhnhbpamndldaaW.PrintWords Go.Proofs.YtbhnhbpamndldaaW.PrintLast Go.Proofs.YtbhnhbpamndldaaW.PrintMore
set_option linter.unusedVariables false
set_option linter.unusedSimpArgs false

theorem front_at (s : ByteArray) (k : Nat) (w : World) (h : k < s.size) :
    Calls Try.prog 42 #[.string s, .int .i64 k] w fun e w' => e = .returned (.int .u8 (bt s k)) ∧ w' = w := by
  have hi : (k : Int) < (s.size : Int) := by omega
  go_enter Try.func42, Try.ntmps42
  go_wp2
  go_ret
  exact ⟨by simp [bt, h], rfl⟩

theorem back_at (s : ByteArray) (k : Nat) (w : World) (h : k < s.size) (hm : s.size ≤ 9223372036854775807) :
    Calls Try.prog 43 #[.string s, .int .i64 k] w fun e w' => e = .returned (.int .u8 (bt s ((s.size - 1 - k : Nat) : Int))) ∧ w' = w := by
  have hi : (k : Int) < (s.size : Int) := by omega
  go_enter Try.func43, Try.ntmps43
  go_wp2
  go_ret
  exact ⟨by
    have e : ((s.size : Int) - 1 - (k : Int)).toNat = s.size - 1 - k := by omega
    have e2 : s.size - 1 - k < s.size := by omega
    simp [bt, e2], rfl⟩

/-- p is how many values two sequences have the same from their beginning on. -/
def IsSame (f g : Nat → Int) (m n p : Nat) : Prop := p ≤ m ∧ p ≤ n ∧ (∀ i, i < p → f i = g i) ∧ (p < m → p < n → f p ≠ g p)
theorem IsSame.unique {f g : Nat → Int} {m n p q : Nat} (h : IsSame f g m n p) (k : IsSame f g m n q) : p = q := by
  obtain ⟨h1, h2, h3, h4⟩ := h
  obtain ⟨k1, k2, k3, k4⟩ := k
  rcases Nat.lt_trichotomy p q with c | c | c
  · exact absurd (k3 p c) (h4 (by omega) (by omega))
  · exact c
  · exact absurd (h3 q c) (k4 (by omega) (by omega))
theorem isSame_ex (f g : Nat → Int) (m n : Nat) : ∃ p, IsSame f g m n p := by
  have key : ∀ d p, min m n - p = d → p ≤ min m n → (∀ i, i < p → f i = g i) → ∃ p, IsSame f g m n p := by
    intro d
    induction d with
    | zero => exact fun p hd hp hi => ⟨p, by omega, by omega, hi, fun a b => by omega⟩
    | succ d ih =>
      intro p hd hp hi
      by_cases e : f p = g p
      · refine ih (p + 1) (by omega) (by omega) (fun i h => ?_)
        rcases Nat.lt_succ_iff_lt_or_eq.1 h with h | h
        · exact hi i h
        · rw [h]
          exact e
      · exact ⟨p, by omega, by omega, hi, fun _ _ => e⟩
  exact key _ 0 rfl (by omega) (fun i h => by omega)

set_option maxHeartbeats 1000000 in
theorem same_front (a b : ByteArray) (w : World) (ha : a.size ≤ 9223372036854775807) (hb : b.size ≤ 9223372036854775807) (p : Nat) (hp : IsSame (fun i => bt a (i : Int)) (fun i => bt b (i : Int)) a.size b.size p) :
    Calls Try.prog 41 #[.string a, .string b, .func (.func 42) #[] #[]] w fun e w' => e = .returned (.int .i64 p) ∧ w' = w := by
  obtain ⟨h1, h2, h3, h4⟩ := hp
  have H3 := Lib.hid h3
  have H4 := Lib.hid h4
  clear h3 h4
  go_enter Try.func41, Try.ntmps41
  go_wp2
  go_loop [7] (fun n => ∃ k : Nat, k ≤ p ∧ n = .int .i64 k) (fun n => p - (intOf n).toNat)
  case atStart => exact ⟨0, by omega, rfl⟩
  case round =>
    obtain ⟨k, hk, rfl⟩ := hrel
    by_cases hlt : k < p
    · have c1 : decide ((k : Int) < (a.size : Int)) = true := decide_eq_true (by omega)
      have c2 : decide ((k : Int) < (b.size : Int)) = true := decide_eq_true (by omega)
      have c3 : ((bt a (k : Int)) == (bt b (k : Int))) = true := beq_iff_eq.2 (H3.out k hlt)
      go_wp2_with fail
      refine (front_at a _ _ (by omega)).mono ?_
      rintro e w' ⟨rfl, rfl⟩
      go_wp2_with fail
      refine (front_at b _ _ (by omega)).mono ?_
      rintro e w' ⟨rfl, rfl⟩
      go_wp2
      go_round
      case rel => exact ⟨k + 1, by omega, by go_num⟩
      case measure => simp [intOf]; omega
    · obtain rfl : k = p := by omega
      by_cases ca : k < a.size
      · by_cases cb : k < b.size
        · have c1 : decide ((k : Int) < (a.size : Int)) = true := decide_eq_true (by omega)
          have c2 : decide ((k : Int) < (b.size : Int)) = true := decide_eq_true (by omega)
          have c3 : ((bt a (k : Int)) == (bt b (k : Int))) = false := beq_eq_false_iff_ne.2 (H4.out ca cb)
          go_wp2_with fail
          refine (front_at a _ _ (by omega)).mono ?_
          rintro e w' ⟨rfl, rfl⟩
          go_wp2_with fail
          refine (front_at b _ _ (by omega)).mono ?_
          rintro e w' ⟨rfl, rfl⟩
          go_wp2
          go_ret
          exact ⟨rfl, rfl⟩
        · have c1 : decide ((k : Int) < (a.size : Int)) = true := decide_eq_true (by omega)
          have c2 : decide ((k : Int) < (b.size : Int)) = false := decide_eq_false (by omega)
          go_wp2
          go_ret
          exact ⟨rfl, rfl⟩
      · have c1 : decide ((k : Int) < (a.size : Int)) = false := decide_eq_false (by omega)
        go_wp2
        go_ret
        exact ⟨rfl, rfl⟩

set_option maxHeartbeats 1000000 in
theorem same_back (a b : ByteArray) (w : World) (ha : a.size ≤ 9223372036854775807) (hb : b.size ≤ 9223372036854775807) (p : Nat) (hp : IsSame (fun i => bt a ((a.size - 1 - i : Nat) : Int)) (fun i => bt b ((b.size - 1 - i : Nat) : Int)) a.size b.size p) :
    Calls Try.prog 41 #[.string a, .string b, .func (.func 43) #[] #[]] w fun e w' => e = .returned (.int .i64 p) ∧ w' = w := by
  obtain ⟨h1, h2, h3, h4⟩ := hp
  have H3 := Lib.hid h3
  have H4 := Lib.hid h4
  clear h3 h4
  go_enter Try.func41, Try.ntmps41
  go_wp2
  go_loop [7] (fun n => ∃ k : Nat, k ≤ p ∧ n = .int .i64 k) (fun n => p - (intOf n).toNat)
  case atStart => exact ⟨0, by omega, rfl⟩
  case round =>
    obtain ⟨k, hk, rfl⟩ := hrel
    by_cases hlt : k < p
    · have c1 : decide ((k : Int) < (a.size : Int)) = true := decide_eq_true (by omega)
      have c2 : decide ((k : Int) < (b.size : Int)) = true := decide_eq_true (by omega)
      have c3 : ((bt a ((a.size - 1 - k : Nat) : Int)) == (bt b ((b.size - 1 - k : Nat) : Int))) = true := beq_iff_eq.2 (H3.out k hlt)
      go_wp2_with fail
      refine (back_at a _ _ (by omega) (by omega)).mono ?_
      rintro e w' ⟨rfl, rfl⟩
      go_wp2_with fail
      refine (back_at b _ _ (by omega) (by omega)).mono ?_
      rintro e w' ⟨rfl, rfl⟩
      go_wp2
      go_round
      case rel => exact ⟨k + 1, by omega, by go_num⟩
      case measure => simp [intOf]; omega
    · obtain rfl : k = p := by omega
      by_cases ca : k < a.size
      · by_cases cb : k < b.size
        · have c1 : decide ((k : Int) < (a.size : Int)) = true := decide_eq_true (by omega)
          have c2 : decide ((k : Int) < (b.size : Int)) = true := decide_eq_true (by omega)
          have c3 : ((bt a ((a.size - 1 - k : Nat) : Int)) == (bt b ((b.size - 1 - k : Nat) : Int))) = false := beq_eq_false_iff_ne.2 (H4.out ca cb)
          go_wp2_with fail
          refine (back_at a _ _ (by omega) (by omega)).mono ?_
          rintro e w' ⟨rfl, rfl⟩
          go_wp2_with fail
          refine (back_at b _ _ (by omega) (by omega)).mono ?_
          rintro e w' ⟨rfl, rfl⟩
          go_wp2
          go_ret
          exact ⟨rfl, rfl⟩
        · have c1 : decide ((k : Int) < (a.size : Int)) = true := decide_eq_true (by omega)
          have c2 : decide ((k : Int) < (b.size : Int)) = false := decide_eq_false (by omega)
          go_wp2
          go_ret
          exact ⟨rfl, rfl⟩
      · have c1 : decide ((k : Int) < (a.size : Int)) = false := decide_eq_false (by omega)
        go_wp2
        go_ret
        exact ⟨rfl, rfl⟩

end Go.Proofs.Ytbhnhbpamndldaa.Delta

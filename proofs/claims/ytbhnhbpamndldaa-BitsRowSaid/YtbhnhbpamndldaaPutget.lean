/- bits.within, put, get at their three instances: what they answer, and which cells they write. -/
import Derived.Test.YtbhnhbpamndldaaWide
import Derived.WalkSpells
import Derived.Outline
import Derived.Lib.Hide
import Derived.Laws.Cover3
namespace Go.Proofs.Ytbhnhbpamndldaa.Bits
open Go.RowKit Go.Proofs.YtbhnhbpamndldaaW.PrintWords Go.Proofs.YtbhnhbpamndldaaW.PrintLast Go.Proofs.YtbhnhbpamndldaaW.PrintMore
set_option linter.unusedVariables false
set_option linter.unusedSimpArgs false

theorem cells_step (g : Nat) : ∀ (vs : List Value) (k o : Nat) (w : World) (v : Value), vs[k]? = some v → w.setCells g o (vs.take (k + 1)) = (w.setCells g o (vs.take k)).setCell ⟨g, o + k, none⟩ v
  | [], k, o, w, v, h => by simp at h
  | u :: vs, 0, o, w, v, h => by
    simp at h
    subst h
    rfl
  | u :: vs, k + 1, o, w, v, h => by
    have := cells_step g vs k (o + 1) (w.setCell ⟨g, o, none⟩ u) v (by simpa using h)
    simp only [List.take_succ_cons, World.setCells]
    rw [this]
    congr 2
    omega

/-- The cells that are written: there, and not frozen. -/
def CanPut (w : World) (g o : Nat) (n : Nat) : Prop := ∀ j, j < n → (∃ v, w.cell? ⟨g, o + j, none⟩ = some (.int .u8 v)) ∧ w.frozen? ⟨g, o + j, none⟩ = false

theorem CanPut.after {w : World} {g o n : Nat} (h : CanPut w g o n) (vs : List Value) (j : Nat) (hj : vs.length ≤ j) (hn : j < n) :
    (∃ v, (w.setCells g o vs).cell? ⟨g, o + j, none⟩ = some (.int .u8 v)) ∧ (w.setCells g o vs).frozen? ⟨g, o + j, none⟩ = false := by
  obtain ⟨⟨v, h1⟩, h2⟩ := h j hn
  refine ⟨⟨v, ?_⟩, ?_⟩
  · rw [World.cell?_setCells_out g vs o w _ (fun _ _ => by simp; omega)]
    exact h1
  · rw [World.frozen?_setCells]
    exact h2

/-- The bytes of a number of 2 bytes. -/
def be16 (x : Int) : List Int := [x / 256 % 256, x % 256]
def cells16 (x : Int) : List Value := (be16 x).map (Value.int .u8)

set_option maxHeartbeats 400000 in
theorem within16_neg (A : Option Addr) (n c : Nat) (at_ : Int) (w : World) (h : at_ < 0) :
    Calls Try.prog 53 #[.slice A n c, .int .i64 at_] w fun e w' => e = .returned (.slice none 0 0) ∧ Drawn0 w w' := by
  have hd : decide (at_ < 0) = true := decide_eq_true h
  go_enter Try.func53, Try.ntmps53
  go_wp2_with (go_at_call 56; refine (wide16 _).mono ?_; rintro e w' ⟨rfl, ⟨m, rfl⟩⟩)
  go_ret
  exact ⟨rfl, ⟨m, rfl⟩⟩

set_option maxHeartbeats 400000 in
theorem within16_far (A : Option Addr) (n c : Nat) (at_ : Int) (w : World) (hn : n ≤ 9223372036854775807) (h0 : 0 ≤ at_) (h : (n : Int) - 2 < at_) :
    Calls Try.prog 53 #[.slice A n c, .int .i64 at_] w fun e w' => e = .returned (.slice none 0 0) ∧ Drawn0 w w' := by
  have hd : decide (at_ < 0) = false := decide_eq_false (by omega)
  have hd2 : decide ((n : Int) - 2 < at_) = true := decide_eq_true h
  go_enter Try.func53, Try.ntmps53
  go_wp2_with (go_at_call 56; refine (wide16 _).mono ?_; rintro e w' ⟨rfl, ⟨m, rfl⟩⟩)
  go_ret
  exact ⟨rfl, ⟨m, rfl⟩⟩

theorem within16_no (A : Option Addr) (n c : Nat) (at_ : Int) (w : World) (hn : n ≤ 9223372036854775807) (h : at_ < 0 ∨ (n : Int) - 2 < at_) :
    Calls Try.prog 53 #[.slice A n c, .int .i64 at_] w fun e w' => e = .returned (.slice none 0 0) ∧ Drawn0 w w' := by
  by_cases h0 : at_ < 0
  · exact within16_neg A n c at_ w h0
  · exact within16_far A n c at_ w hn (by omega) (by omega)

set_option maxHeartbeats 400000 in
theorem within16_yes (g off : Nat) (n c : Nat) (at_ : Nat) (w : World) (hn : n ≤ 9223372036854775807) (hnc : n ≤ c) (h : at_ + 2 ≤ n) :
    Calls Try.prog 53 #[.slice (some ⟨g, off, none⟩) n c, .int .i64 at_] w fun e w' => e = .returned (.slice (some ⟨g, off + at_, none⟩) 2 (c - at_)) ∧ Drawn0 w w' := by
  have hd : decide ((at_ : Int) < 0) = false := decide_eq_false (by omega)
  have hd2 : decide ((n : Int) - 2 < at_) = false := decide_eq_false (by omega)
  go_enter Try.func53, Try.ntmps53
  go_wp2_with (go_at_call 56; refine (wide16 _).mono ?_; rintro e w' ⟨rfl, ⟨m, rfl⟩⟩)
  go_ret
  exact ⟨by simp, ⟨m, rfl⟩⟩

set_option maxHeartbeats 400000 in
theorem put16_no (A : Option Addr) (n c : Nat) (at_ x : Int) (w : World) (hn : n ≤ 9223372036854775807) (h : at_ < 0 ∨ (n : Int) - 2 < at_) :
    Calls Try.prog 46 #[.slice A n c, .int .i64 at_, .int .u16 x] w fun e w' => e = .returned (.bool false) ∧ Drawn0 w w' := by
  have hne := fun (w : World) (a : Option Addr) (l c : Nat) => run_neq_slice_nil (P := Try.prog) (w := w) 33 5 a l c Try.underlying33
  have HN := Lib.hid hn
  have HO := Lib.hid h
  clear hn h
  go_enter Try.func46, Try.ntmps46
  go_wp2_with (go_at_call 53; refine (within16_no _ _ _ _ _ HN.out HO.out).mono ?_; rintro e w' ⟨rfl, ⟨m, rfl⟩⟩)
  go_loopw [14] (fun i wr => i = .int .i64 0 ∧ wr = w.drewN m) (fun i _ => 0)
  case atStart => exact ⟨rfl, rfl⟩
  case round =>
    obtain ⟨rfl, rfl⟩ := hrel
    go_wp2
    go_ret
    exact ⟨by first | rfl | simp, ⟨m, rfl⟩⟩

set_option maxHeartbeats 2000000 in
theorem put16_yes (g off : Nat) (n c : Nat) (at_ : Nat) (x : Int) (hx0 : 0 ≤ x) (w : World) (hn : n ≤ 9223372036854775807) (hnc : n ≤ c) (h : at_ + 2 ≤ n) (hc : CanPut w g (off + at_) 2) :
    Calls Try.prog 46 #[.slice (some ⟨g, off, none⟩) n c, .int .i64 at_, .int .u16 x] w fun e w' => e = .returned (.bool true) ∧ ∃ m, w' = (w.setCells g (off + at_) (cells16 x)).drewN m := by
  have HC := Lib.hid hc
  clear hc
  have hne := fun (w : World) (a : Option Addr) (l c : Nat) => run_neq_slice_nil (P := Try.prog) (w := w) 33 5 a l c Try.underlying33
  go_enter Try.func46, Try.ntmps46
  go_wp2_with (go_at_call 53; refine (within16_yes _ _ _ _ _ _ hn hnc h).mono ?_; rintro e w' ⟨rfl, ⟨m, rfl⟩⟩)
  go_loopw [14] (fun i wr => ∃ k : Nat, k ≤ 2 ∧ i = .int .i64 k ∧ wr = (w.setCells g (off + at_) ((cells16 x).take k)).drewN m) (fun i _ => 2 - (intOf i).toNat)
  case atStart => exact ⟨0, by omega, rfl, rfl⟩
  case round =>
    obtain ⟨k, hk, rfl, rfl⟩ := hrel
    obtain rfl | rfl | rfl : k = 0 ∨ k = 1 ∨ k = 2 := by omega
    · obtain ⟨⟨v, h1⟩, h2⟩ := HC.out.after ((cells16 x).take 0) 0 (by simp [cells16, be16]) (by omega)
      have E := Lib.hid (cells_step g (cells16 x) 0 (off + at_) w _ rfl)
      generalize w.setCells g (off + at_) ((cells16 x).take 0) = W at *
      simp only [Nat.add_zero] at h1 h2
      go_wp2
      go_roundw
      case rel => exact ⟨1, by omega, rfl, by rw [E.out]; rfl⟩
      case measure => simp [intOf]
    · obtain ⟨⟨v, h1⟩, h2⟩ := HC.out.after ((cells16 x).take 1) 1 (by simp [cells16, be16]) (by omega)
      have E := Lib.hid (cells_step g (cells16 x) 1 (off + at_) w _ rfl)
      generalize w.setCells g (off + at_) ((cells16 x).take 1) = W at *
      go_wp2
      go_roundw
      case rel => exact ⟨2, by omega, rfl, by rw [E.out]; rfl⟩
      case measure => simp [intOf]
    · go_wp2
      go_ret
      exact ⟨rfl, m, rfl⟩

/-- The bytes of a number of 4 bytes. -/
def be32 (x : Int) : List Int := [x / 16777216 % 256, x / 65536 % 256, x / 256 % 256, x % 256]
def cells32 (x : Int) : List Value := (be32 x).map (Value.int .u8)

set_option maxHeartbeats 400000 in
theorem within32_neg (A : Option Addr) (n c : Nat) (at_ : Int) (w : World) (h : at_ < 0) :
    Calls Try.prog 51 #[.slice A n c, .int .i64 at_] w fun e w' => e = .returned (.slice none 0 0) ∧ Drawn0 w w' := by
  have hd : decide (at_ < 0) = true := decide_eq_true h
  go_enter Try.func51, Try.ntmps51
  go_wp2_with (go_at_call 55; refine (wide32 _).mono ?_; rintro e w' ⟨rfl, ⟨m, rfl⟩⟩)
  go_ret
  exact ⟨rfl, ⟨m, rfl⟩⟩

set_option maxHeartbeats 400000 in
theorem within32_far (A : Option Addr) (n c : Nat) (at_ : Int) (w : World) (hn : n ≤ 9223372036854775807) (h0 : 0 ≤ at_) (h : (n : Int) - 4 < at_) :
    Calls Try.prog 51 #[.slice A n c, .int .i64 at_] w fun e w' => e = .returned (.slice none 0 0) ∧ Drawn0 w w' := by
  have hd : decide (at_ < 0) = false := decide_eq_false (by omega)
  have hd2 : decide ((n : Int) - 4 < at_) = true := decide_eq_true h
  go_enter Try.func51, Try.ntmps51
  go_wp2_with (go_at_call 55; refine (wide32 _).mono ?_; rintro e w' ⟨rfl, ⟨m, rfl⟩⟩)
  go_ret
  exact ⟨rfl, ⟨m, rfl⟩⟩

theorem within32_no (A : Option Addr) (n c : Nat) (at_ : Int) (w : World) (hn : n ≤ 9223372036854775807) (h : at_ < 0 ∨ (n : Int) - 4 < at_) :
    Calls Try.prog 51 #[.slice A n c, .int .i64 at_] w fun e w' => e = .returned (.slice none 0 0) ∧ Drawn0 w w' := by
  by_cases h0 : at_ < 0
  · exact within32_neg A n c at_ w h0
  · exact within32_far A n c at_ w hn (by omega) (by omega)

set_option maxHeartbeats 400000 in
theorem within32_yes (g off : Nat) (n c : Nat) (at_ : Nat) (w : World) (hn : n ≤ 9223372036854775807) (hnc : n ≤ c) (h : at_ + 4 ≤ n) :
    Calls Try.prog 51 #[.slice (some ⟨g, off, none⟩) n c, .int .i64 at_] w fun e w' => e = .returned (.slice (some ⟨g, off + at_, none⟩) 4 (c - at_)) ∧ Drawn0 w w' := by
  have hd : decide ((at_ : Int) < 0) = false := decide_eq_false (by omega)
  have hd2 : decide ((n : Int) - 4 < at_) = false := decide_eq_false (by omega)
  go_enter Try.func51, Try.ntmps51
  go_wp2_with (go_at_call 55; refine (wide32 _).mono ?_; rintro e w' ⟨rfl, ⟨m, rfl⟩⟩)
  go_ret
  exact ⟨by simp, ⟨m, rfl⟩⟩

set_option maxHeartbeats 400000 in
theorem put32_no (A : Option Addr) (n c : Nat) (at_ x : Int) (w : World) (hn : n ≤ 9223372036854775807) (h : at_ < 0 ∨ (n : Int) - 4 < at_) :
    Calls Try.prog 40 #[.slice A n c, .int .i64 at_, .int .u32 x] w fun e w' => e = .returned (.bool false) ∧ Drawn0 w w' := by
  have hne := fun (w : World) (a : Option Addr) (l c : Nat) => run_neq_slice_nil (P := Try.prog) (w := w) 33 5 a l c Try.underlying33
  have HN := Lib.hid hn
  have HO := Lib.hid h
  clear hn h
  go_enter Try.func40, Try.ntmps40
  go_wp2_with (go_at_call 51; refine (within32_no _ _ _ _ _ HN.out HO.out).mono ?_; rintro e w' ⟨rfl, ⟨m, rfl⟩⟩)
  go_loopw [14] (fun i wr => i = .int .i64 0 ∧ wr = w.drewN m) (fun i _ => 0)
  case atStart => exact ⟨rfl, rfl⟩
  case round =>
    obtain ⟨rfl, rfl⟩ := hrel
    go_wp2
    go_ret
    exact ⟨by first | rfl | simp, ⟨m, rfl⟩⟩

set_option maxHeartbeats 2000000 in
theorem put32_yes (g off : Nat) (n c : Nat) (at_ : Nat) (x : Int) (hx0 : 0 ≤ x) (w : World) (hn : n ≤ 9223372036854775807) (hnc : n ≤ c) (h : at_ + 4 ≤ n) (hc : CanPut w g (off + at_) 4) :
    Calls Try.prog 40 #[.slice (some ⟨g, off, none⟩) n c, .int .i64 at_, .int .u32 x] w fun e w' => e = .returned (.bool true) ∧ ∃ m, w' = (w.setCells g (off + at_) (cells32 x)).drewN m := by
  have HC := Lib.hid hc
  clear hc
  have hne := fun (w : World) (a : Option Addr) (l c : Nat) => run_neq_slice_nil (P := Try.prog) (w := w) 33 5 a l c Try.underlying33
  go_enter Try.func40, Try.ntmps40
  go_wp2_with (go_at_call 51; refine (within32_yes _ _ _ _ _ _ hn hnc h).mono ?_; rintro e w' ⟨rfl, ⟨m, rfl⟩⟩)
  go_loopw [14] (fun i wr => ∃ k : Nat, k ≤ 4 ∧ i = .int .i64 k ∧ wr = (w.setCells g (off + at_) ((cells32 x).take k)).drewN m) (fun i _ => 4 - (intOf i).toNat)
  case atStart => exact ⟨0, by omega, rfl, rfl⟩
  case round =>
    obtain ⟨k, hk, rfl, rfl⟩ := hrel
    obtain rfl | rfl | rfl | rfl | rfl : k = 0 ∨ k = 1 ∨ k = 2 ∨ k = 3 ∨ k = 4 := by omega
    · obtain ⟨⟨v, h1⟩, h2⟩ := HC.out.after ((cells32 x).take 0) 0 (by simp [cells32, be32]) (by omega)
      have E := Lib.hid (cells_step g (cells32 x) 0 (off + at_) w _ rfl)
      generalize w.setCells g (off + at_) ((cells32 x).take 0) = W at *
      simp only [Nat.add_zero] at h1 h2
      go_wp2
      go_roundw
      case rel => exact ⟨1, by omega, rfl, by rw [E.out]; rfl⟩
      case measure => simp [intOf]
    · obtain ⟨⟨v, h1⟩, h2⟩ := HC.out.after ((cells32 x).take 1) 1 (by simp [cells32, be32]) (by omega)
      have E := Lib.hid (cells_step g (cells32 x) 1 (off + at_) w _ rfl)
      generalize w.setCells g (off + at_) ((cells32 x).take 1) = W at *
      go_wp2
      go_roundw
      case rel => exact ⟨2, by omega, rfl, by rw [E.out]; rfl⟩
      case measure => simp [intOf]
    · obtain ⟨⟨v, h1⟩, h2⟩ := HC.out.after ((cells32 x).take 2) 2 (by simp [cells32, be32]) (by omega)
      have E := Lib.hid (cells_step g (cells32 x) 2 (off + at_) w _ rfl)
      generalize w.setCells g (off + at_) ((cells32 x).take 2) = W at *
      go_wp2
      go_roundw
      case rel => exact ⟨3, by omega, rfl, by rw [E.out]; rfl⟩
      case measure => simp [intOf]
    · obtain ⟨⟨v, h1⟩, h2⟩ := HC.out.after ((cells32 x).take 3) 3 (by simp [cells32, be32]) (by omega)
      have E := Lib.hid (cells_step g (cells32 x) 3 (off + at_) w _ rfl)
      generalize w.setCells g (off + at_) ((cells32 x).take 3) = W at *
      go_wp2
      go_roundw
      case rel => exact ⟨4, by omega, rfl, by rw [E.out]; rfl⟩
      case measure => simp [intOf]
    · go_wp2
      go_ret
      exact ⟨rfl, m, rfl⟩

/-- The bytes of a number of 8 bytes. -/
def be64 (x : Int) : List Int := [x / 72057594037927936 % 256, x / 281474976710656 % 256, x / 1099511627776 % 256, x / 4294967296 % 256, x / 16777216 % 256, x / 65536 % 256, x / 256 % 256, x % 256]
def cells64 (x : Int) : List Value := (be64 x).map (Value.int .u8)

set_option maxHeartbeats 400000 in
theorem within64_neg (A : Option Addr) (n c : Nat) (at_ : Int) (w : World) (h : at_ < 0) :
    Calls Try.prog 50 #[.slice A n c, .int .i64 at_] w fun e w' => e = .returned (.slice none 0 0) ∧ Drawn0 w w' := by
  have hd : decide (at_ < 0) = true := decide_eq_true h
  go_enter Try.func50, Try.ntmps50
  go_wp2_with (go_at_call 54; refine (wide64 _).mono ?_; rintro e w' ⟨rfl, ⟨m, rfl⟩⟩)
  go_ret
  exact ⟨rfl, ⟨m, rfl⟩⟩

set_option maxHeartbeats 400000 in
theorem within64_far (A : Option Addr) (n c : Nat) (at_ : Int) (w : World) (hn : n ≤ 9223372036854775807) (h0 : 0 ≤ at_) (h : (n : Int) - 8 < at_) :
    Calls Try.prog 50 #[.slice A n c, .int .i64 at_] w fun e w' => e = .returned (.slice none 0 0) ∧ Drawn0 w w' := by
  have hd : decide (at_ < 0) = false := decide_eq_false (by omega)
  have hd2 : decide ((n : Int) - 8 < at_) = true := decide_eq_true h
  go_enter Try.func50, Try.ntmps50
  go_wp2_with (go_at_call 54; refine (wide64 _).mono ?_; rintro e w' ⟨rfl, ⟨m, rfl⟩⟩)
  go_ret
  exact ⟨rfl, ⟨m, rfl⟩⟩

theorem within64_no (A : Option Addr) (n c : Nat) (at_ : Int) (w : World) (hn : n ≤ 9223372036854775807) (h : at_ < 0 ∨ (n : Int) - 8 < at_) :
    Calls Try.prog 50 #[.slice A n c, .int .i64 at_] w fun e w' => e = .returned (.slice none 0 0) ∧ Drawn0 w w' := by
  by_cases h0 : at_ < 0
  · exact within64_neg A n c at_ w h0
  · exact within64_far A n c at_ w hn (by omega) (by omega)

set_option maxHeartbeats 400000 in
theorem within64_yes (g off : Nat) (n c : Nat) (at_ : Nat) (w : World) (hn : n ≤ 9223372036854775807) (hnc : n ≤ c) (h : at_ + 8 ≤ n) :
    Calls Try.prog 50 #[.slice (some ⟨g, off, none⟩) n c, .int .i64 at_] w fun e w' => e = .returned (.slice (some ⟨g, off + at_, none⟩) 8 (c - at_)) ∧ Drawn0 w w' := by
  have hd : decide ((at_ : Int) < 0) = false := decide_eq_false (by omega)
  have hd2 : decide ((n : Int) - 8 < at_) = false := decide_eq_false (by omega)
  go_enter Try.func50, Try.ntmps50
  go_wp2_with (go_at_call 54; refine (wide64 _).mono ?_; rintro e w' ⟨rfl, ⟨m, rfl⟩⟩)
  go_ret
  exact ⟨by simp, ⟨m, rfl⟩⟩

set_option maxHeartbeats 400000 in
theorem put64_no (A : Option Addr) (n c : Nat) (at_ x : Int) (w : World) (hn : n ≤ 9223372036854775807) (h : at_ < 0 ∨ (n : Int) - 8 < at_) :
    Calls Try.prog 39 #[.slice A n c, .int .i64 at_, .int .u64 x] w fun e w' => e = .returned (.bool false) ∧ Drawn0 w w' := by
  have hne := fun (w : World) (a : Option Addr) (l c : Nat) => run_neq_slice_nil (P := Try.prog) (w := w) 33 5 a l c Try.underlying33
  have HN := Lib.hid hn
  have HO := Lib.hid h
  clear hn h
  go_enter Try.func39, Try.ntmps39
  go_wp2_with (go_at_call 50; refine (within64_no _ _ _ _ _ HN.out HO.out).mono ?_; rintro e w' ⟨rfl, ⟨m, rfl⟩⟩)
  go_loopw [14] (fun i wr => i = .int .i64 0 ∧ wr = w.drewN m) (fun i _ => 0)
  case atStart => exact ⟨rfl, rfl⟩
  case round =>
    obtain ⟨rfl, rfl⟩ := hrel
    go_wp2
    go_ret
    exact ⟨by first | rfl | simp, ⟨m, rfl⟩⟩

set_option maxHeartbeats 2000000 in
theorem put64_yes (g off : Nat) (n c : Nat) (at_ : Nat) (x : Int) (hx0 : 0 ≤ x) (w : World) (hn : n ≤ 9223372036854775807) (hnc : n ≤ c) (h : at_ + 8 ≤ n) (hc : CanPut w g (off + at_) 8) :
    Calls Try.prog 39 #[.slice (some ⟨g, off, none⟩) n c, .int .i64 at_, .int .u64 x] w fun e w' => e = .returned (.bool true) ∧ ∃ m, w' = (w.setCells g (off + at_) (cells64 x)).drewN m := by
  have HC := Lib.hid hc
  clear hc
  have hne := fun (w : World) (a : Option Addr) (l c : Nat) => run_neq_slice_nil (P := Try.prog) (w := w) 33 5 a l c Try.underlying33
  go_enter Try.func39, Try.ntmps39
  go_wp2_with (go_at_call 50; refine (within64_yes _ _ _ _ _ _ hn hnc h).mono ?_; rintro e w' ⟨rfl, ⟨m, rfl⟩⟩)
  go_loopw [14] (fun i wr => ∃ k : Nat, k ≤ 8 ∧ i = .int .i64 k ∧ wr = (w.setCells g (off + at_) ((cells64 x).take k)).drewN m) (fun i _ => 8 - (intOf i).toNat)
  case atStart => exact ⟨0, by omega, rfl, rfl⟩
  case round =>
    obtain ⟨k, hk, rfl, rfl⟩ := hrel
    obtain rfl | rfl | rfl | rfl | rfl | rfl | rfl | rfl | rfl : k = 0 ∨ k = 1 ∨ k = 2 ∨ k = 3 ∨ k = 4 ∨ k = 5 ∨ k = 6 ∨ k = 7 ∨ k = 8 := by omega
    · obtain ⟨⟨v, h1⟩, h2⟩ := HC.out.after ((cells64 x).take 0) 0 (by simp [cells64, be64]) (by omega)
      have E := Lib.hid (cells_step g (cells64 x) 0 (off + at_) w _ rfl)
      generalize w.setCells g (off + at_) ((cells64 x).take 0) = W at *
      simp only [Nat.add_zero] at h1 h2
      go_wp2
      go_roundw
      case rel => exact ⟨1, by omega, rfl, by rw [E.out]; rfl⟩
      case measure => simp [intOf]
    · obtain ⟨⟨v, h1⟩, h2⟩ := HC.out.after ((cells64 x).take 1) 1 (by simp [cells64, be64]) (by omega)
      have E := Lib.hid (cells_step g (cells64 x) 1 (off + at_) w _ rfl)
      generalize w.setCells g (off + at_) ((cells64 x).take 1) = W at *
      go_wp2
      go_roundw
      case rel => exact ⟨2, by omega, rfl, by rw [E.out]; rfl⟩
      case measure => simp [intOf]
    · obtain ⟨⟨v, h1⟩, h2⟩ := HC.out.after ((cells64 x).take 2) 2 (by simp [cells64, be64]) (by omega)
      have E := Lib.hid (cells_step g (cells64 x) 2 (off + at_) w _ rfl)
      generalize w.setCells g (off + at_) ((cells64 x).take 2) = W at *
      go_wp2
      go_roundw
      case rel => exact ⟨3, by omega, rfl, by rw [E.out]; rfl⟩
      case measure => simp [intOf]
    · obtain ⟨⟨v, h1⟩, h2⟩ := HC.out.after ((cells64 x).take 3) 3 (by simp [cells64, be64]) (by omega)
      have E := Lib.hid (cells_step g (cells64 x) 3 (off + at_) w _ rfl)
      generalize w.setCells g (off + at_) ((cells64 x).take 3) = W at *
      go_wp2
      go_roundw
      case rel => exact ⟨4, by omega, rfl, by rw [E.out]; rfl⟩
      case measure => simp [intOf]
    · obtain ⟨⟨v, h1⟩, h2⟩ := HC.out.after ((cells64 x).take 4) 4 (by simp [cells64, be64]) (by omega)
      have E := Lib.hid (cells_step g (cells64 x) 4 (off + at_) w _ rfl)
      generalize w.setCells g (off + at_) ((cells64 x).take 4) = W at *
      go_wp2
      go_roundw
      case rel => exact ⟨5, by omega, rfl, by rw [E.out]; rfl⟩
      case measure => simp [intOf]
    · obtain ⟨⟨v, h1⟩, h2⟩ := HC.out.after ((cells64 x).take 5) 5 (by simp [cells64, be64]) (by omega)
      have E := Lib.hid (cells_step g (cells64 x) 5 (off + at_) w _ rfl)
      generalize w.setCells g (off + at_) ((cells64 x).take 5) = W at *
      go_wp2
      go_roundw
      case rel => exact ⟨6, by omega, rfl, by rw [E.out]; rfl⟩
      case measure => simp [intOf]
    · obtain ⟨⟨v, h1⟩, h2⟩ := HC.out.after ((cells64 x).take 6) 6 (by simp [cells64, be64]) (by omega)
      have E := Lib.hid (cells_step g (cells64 x) 6 (off + at_) w _ rfl)
      generalize w.setCells g (off + at_) ((cells64 x).take 6) = W at *
      go_wp2
      go_roundw
      case rel => exact ⟨7, by omega, rfl, by rw [E.out]; rfl⟩
      case measure => simp [intOf]
    · obtain ⟨⟨v, h1⟩, h2⟩ := HC.out.after ((cells64 x).take 7) 7 (by simp [cells64, be64]) (by omega)
      have E := Lib.hid (cells_step g (cells64 x) 7 (off + at_) w _ rfl)
      generalize w.setCells g (off + at_) ((cells64 x).take 7) = W at *
      go_wp2
      go_roundw
      case rel => exact ⟨8, by omega, rfl, by rw [E.out]; rfl⟩
      case measure => simp [intOf]
    · go_wp2
      go_ret
      exact ⟨rfl, m, rfl⟩

/-- The number that bytes are, the most significant one first. -/
def beNum : List Int → Int := List.foldl (fun n b => n * 256 + b) 0
theorem beNum_snoc (l : List Int) (b : Int) : beNum (l ++ [b]) = beNum l * 256 + b := by simp [beNum, List.foldl_append]
theorem beNum_acc : ∀ (l : List Int) (x : Int) (k : Nat), (∀ b ∈ l, 0 ≤ b ∧ b < 256) → 0 ≤ x → x < 256 ^ k → 0 ≤ List.foldl (fun n b => n * 256 + b) x l ∧ List.foldl (fun n b => n * 256 + b) x l < 256 ^ (k + l.length)
  | [], x, k, _, h0, h1 => ⟨h0, h1⟩
  | b :: l, x, k, h, h0, h1 => by
    have hb := h b (by simp)
    have h3 : (256 : Int) ^ (k + 1) = 256 ^ k * 256 := by rw [Int.pow_succ]
    have := beNum_acc l (x * 256 + b) (k + 1) (fun c hc => h c (by simp [hc])) (by omega) (by rw [h3]; generalize (256 : Int) ^ k = y at *; omega)
    rw [show k + (b :: l).length = k + 1 + l.length by simp; omega]
    exact this
theorem beNum_range (l : List Int) (h : ∀ b ∈ l, 0 ≤ b ∧ b < 256) : 0 ≤ beNum l ∧ beNum l < 256 ^ l.length := by
  have := beNum_acc l 0 0 h (by omega) (by simp)
  rwa [Nat.zero_add] at this
theorem beNum_take (l : List Int) (k : Nat) (h : k < l.length) : beNum (l.take (k + 1)) = beNum (l.take k) * 256 + l.getD k 0 := by
  rw [List.take_succ_eq_append_getElem h, beNum_snoc, List.getD_eq_getElem?_getD, List.getElem?_eq_getElem h]
  rfl

set_option maxHeartbeats 400000 in
theorem get16_no (A : Option Addr) (n c : Nat) (at_ : Int) (w : World) (hn : n ≤ 9223372036854775807) (h : at_ < 0 ∨ (n : Int) - 2 < at_) :
    Calls Try.prog 49 #[.slice A n c, .int .i64 at_] w fun e w' => e = .returned (.tuple #[.int .u16 0, .bool false]) ∧ Drawn0 w w' := by
  have hne := fun (w : World) (a : Option Addr) (l c : Nat) => run_neq_slice_nil (P := Try.prog) (w := w) 33 5 a l c Try.underlying33
  have HN := Lib.hid hn
  have HO := Lib.hid h
  clear hn h
  go_enter Try.func49, Try.ntmps49
  go_wp2_with (go_at_call 53; refine (within16_no _ _ _ _ _ HN.out HO.out).mono ?_; rintro e w' ⟨rfl, ⟨m, rfl⟩⟩)
  go_loopw [7, 15] (fun v i wr => v = .int .u16 0 ∧ i = .int .i64 0 ∧ wr = w.drewN m) (fun _ _ _ => 0)
  case atStart => exact ⟨rfl, rfl, rfl⟩
  case round =>
    obtain ⟨rfl, rfl, rfl⟩ := hrel
    go_wp2
    go_ret2
    exact ⟨by first | rfl | simp, ⟨m, rfl⟩⟩

set_option maxHeartbeats 2000000 in
theorem get16_yes (g off : Nat) (n c : Nat) (at_ : Nat) (ys : List Int) (w : World) (hn : n ≤ 9223372036854775807) (hnc : n ≤ c) (h : at_ + 2 ≤ n) (hl : ys.length = 2) (hy : ∀ b ∈ ys, 0 ≤ b ∧ b < 256)
    (hc : ∀ j, j < 2 → w.cell? ⟨g, off + at_ + j, none⟩ = some (.int .u8 (ys.getD j 0))) :
    Calls Try.prog 49 #[.slice (some ⟨g, off, none⟩) n c, .int .i64 at_] w fun e w' => e = .returned (.tuple #[.int .u16 (beNum ys), .bool true]) ∧ Drawn0 w w' := by
  have hne := fun (w : World) (a : Option Addr) (l c : Nat) => run_neq_slice_nil (P := Try.prog) (w := w) 33 5 a l c Try.underlying33
  have HC := Lib.hid hc
  have HY := Lib.hid hy
  have HL := Lib.hid hl
  clear hc hy hl
  go_enter Try.func49, Try.ntmps49
  go_wp2_with (go_at_call 53; refine (within16_yes _ _ _ _ _ _ hn hnc h).mono ?_; rintro e w' ⟨rfl, ⟨m, rfl⟩⟩)
  go_loopw [7, 15] (fun v i wr => ∃ k : Nat, k ≤ 2 ∧ i = .int .i64 k ∧ v = .int .u16 (beNum (ys.take k)) ∧ wr = w.drewN m) (fun _ i _ => 2 - (intOf i).toNat)
  case atStart => exact ⟨0, by omega, rfl, rfl, rfl⟩
  case round =>
    obtain ⟨k, hk, rfl, rfl, rfl⟩ := hrel
    have hl := HL.out
    obtain rfl | rfl | rfl : k = 0 ∨ k = 1 ∨ k = 2 := by omega
    · have hv := beNum_range (ys.take 0) (fun b hb => HY.out b (List.mem_of_mem_take hb))
      have hl : (ys.take 0).length = 0 := by rw [List.length_take]; omega
      rw [hl] at hv
      have E := Lib.hid (beNum_take ys 0 (by omega))
      have hc := HC.out 0 (by omega)
      have hb := HY.out (ys.getD 0 0) (by rw [List.getD_eq_getElem?_getD, List.getElem?_eq_getElem (show 0 < ys.length by omega)]; exact List.getElem_mem _)
      generalize beNum (ys.take 0) = v at *
      generalize ys.getD 0 0 = b at *
      obtain ⟨hv0, hv1⟩ := hv
      obtain ⟨hb0, hb1⟩ := hb
      simp only [Nat.reducePow, Int.reducePow, Int.pow_zero] at hv1
      have hor := Lib.hid (bits_join .u16 16 (by decide) (fun n h0 h1 => by rw [IntKind.wrap_u16]; omega) 8 (v * 256) b (by omega) (by omega) (by omega) hb0 (by omega) (by omega))
      simp only [Nat.add_zero] at hc
      go_wp2
      go_roundw
      case rel => exact ⟨1, by omega, rfl, by rw [E.out, ← hor.out], by first | rfl | trivial⟩
      case measure => simp [intOf]
    · have hv := beNum_range (ys.take 1) (fun b hb => HY.out b (List.mem_of_mem_take hb))
      have hl : (ys.take 1).length = 1 := by rw [List.length_take]; omega
      rw [hl] at hv
      have E := Lib.hid (beNum_take ys 1 (by omega))
      have hc := HC.out 1 (by omega)
      have hb := HY.out (ys.getD 1 0) (by rw [List.getD_eq_getElem?_getD, List.getElem?_eq_getElem (show 1 < ys.length by omega)]; exact List.getElem_mem _)
      generalize beNum (ys.take 1) = v at *
      generalize ys.getD 1 0 = b at *
      obtain ⟨hv0, hv1⟩ := hv
      obtain ⟨hb0, hb1⟩ := hb
      simp only [Nat.reducePow, Int.reducePow, Int.pow_zero] at hv1
      have hor := Lib.hid (bits_join .u16 16 (by decide) (fun n h0 h1 => by rw [IntKind.wrap_u16]; omega) 8 (v * 256) b (by omega) (by omega) (by omega) hb0 (by omega) (by omega))
      go_wp2
      go_roundw
      case rel => exact ⟨2, by omega, rfl, by rw [E.out, ← hor.out], by first | rfl | trivial⟩
      case measure => simp [intOf]
    · go_wp2
      go_ret2
      exact ⟨by rw [List.take_of_length_le (by omega)]; rfl, ⟨m, rfl⟩⟩

set_option maxHeartbeats 400000 in
theorem get32_no (A : Option Addr) (n c : Nat) (at_ : Int) (w : World) (hn : n ≤ 9223372036854775807) (h : at_ < 0 ∨ (n : Int) - 4 < at_) :
    Calls Try.prog 48 #[.slice A n c, .int .i64 at_] w fun e w' => e = .returned (.tuple #[.int .u32 0, .bool false]) ∧ Drawn0 w w' := by
  have hne := fun (w : World) (a : Option Addr) (l c : Nat) => run_neq_slice_nil (P := Try.prog) (w := w) 33 5 a l c Try.underlying33
  have HN := Lib.hid hn
  have HO := Lib.hid h
  clear hn h
  go_enter Try.func48, Try.ntmps48
  go_wp2_with (go_at_call 51; refine (within32_no _ _ _ _ _ HN.out HO.out).mono ?_; rintro e w' ⟨rfl, ⟨m, rfl⟩⟩)
  go_loopw [7, 15] (fun v i wr => v = .int .u32 0 ∧ i = .int .i64 0 ∧ wr = w.drewN m) (fun _ _ _ => 0)
  case atStart => exact ⟨rfl, rfl, rfl⟩
  case round =>
    obtain ⟨rfl, rfl, rfl⟩ := hrel
    go_wp2
    go_ret2
    exact ⟨by first | rfl | simp, ⟨m, rfl⟩⟩

set_option maxHeartbeats 2000000 in
theorem get32_yes (g off : Nat) (n c : Nat) (at_ : Nat) (ys : List Int) (w : World) (hn : n ≤ 9223372036854775807) (hnc : n ≤ c) (h : at_ + 4 ≤ n) (hl : ys.length = 4) (hy : ∀ b ∈ ys, 0 ≤ b ∧ b < 256)
    (hc : ∀ j, j < 4 → w.cell? ⟨g, off + at_ + j, none⟩ = some (.int .u8 (ys.getD j 0))) :
    Calls Try.prog 48 #[.slice (some ⟨g, off, none⟩) n c, .int .i64 at_] w fun e w' => e = .returned (.tuple #[.int .u32 (beNum ys), .bool true]) ∧ Drawn0 w w' := by
  have hne := fun (w : World) (a : Option Addr) (l c : Nat) => run_neq_slice_nil (P := Try.prog) (w := w) 33 5 a l c Try.underlying33
  have HC := Lib.hid hc
  have HY := Lib.hid hy
  have HL := Lib.hid hl
  clear hc hy hl
  go_enter Try.func48, Try.ntmps48
  go_wp2_with (go_at_call 51; refine (within32_yes _ _ _ _ _ _ hn hnc h).mono ?_; rintro e w' ⟨rfl, ⟨m, rfl⟩⟩)
  go_loopw [7, 15] (fun v i wr => ∃ k : Nat, k ≤ 4 ∧ i = .int .i64 k ∧ v = .int .u32 (beNum (ys.take k)) ∧ wr = w.drewN m) (fun _ i _ => 4 - (intOf i).toNat)
  case atStart => exact ⟨0, by omega, rfl, rfl, rfl⟩
  case round =>
    obtain ⟨k, hk, rfl, rfl, rfl⟩ := hrel
    have hl := HL.out
    obtain rfl | rfl | rfl | rfl | rfl : k = 0 ∨ k = 1 ∨ k = 2 ∨ k = 3 ∨ k = 4 := by omega
    · have hv := beNum_range (ys.take 0) (fun b hb => HY.out b (List.mem_of_mem_take hb))
      have hl : (ys.take 0).length = 0 := by rw [List.length_take]; omega
      rw [hl] at hv
      have E := Lib.hid (beNum_take ys 0 (by omega))
      have hc := HC.out 0 (by omega)
      have hb := HY.out (ys.getD 0 0) (by rw [List.getD_eq_getElem?_getD, List.getElem?_eq_getElem (show 0 < ys.length by omega)]; exact List.getElem_mem _)
      generalize beNum (ys.take 0) = v at *
      generalize ys.getD 0 0 = b at *
      obtain ⟨hv0, hv1⟩ := hv
      obtain ⟨hb0, hb1⟩ := hb
      simp only [Nat.reducePow, Int.reducePow, Int.pow_zero] at hv1
      have hor := Lib.hid (bits_join .u32 32 (by decide) (fun n h0 h1 => by rw [IntKind.wrap_u32]; omega) 8 (v * 256) b (by omega) (by omega) (by omega) hb0 (by omega) (by omega))
      simp only [Nat.add_zero] at hc
      go_wp2
      go_roundw
      case rel => exact ⟨1, by omega, rfl, by rw [E.out, ← hor.out], by first | rfl | trivial⟩
      case measure => simp [intOf]
    · have hv := beNum_range (ys.take 1) (fun b hb => HY.out b (List.mem_of_mem_take hb))
      have hl : (ys.take 1).length = 1 := by rw [List.length_take]; omega
      rw [hl] at hv
      have E := Lib.hid (beNum_take ys 1 (by omega))
      have hc := HC.out 1 (by omega)
      have hb := HY.out (ys.getD 1 0) (by rw [List.getD_eq_getElem?_getD, List.getElem?_eq_getElem (show 1 < ys.length by omega)]; exact List.getElem_mem _)
      generalize beNum (ys.take 1) = v at *
      generalize ys.getD 1 0 = b at *
      obtain ⟨hv0, hv1⟩ := hv
      obtain ⟨hb0, hb1⟩ := hb
      simp only [Nat.reducePow, Int.reducePow, Int.pow_zero] at hv1
      have hor := Lib.hid (bits_join .u32 32 (by decide) (fun n h0 h1 => by rw [IntKind.wrap_u32]; omega) 8 (v * 256) b (by omega) (by omega) (by omega) hb0 (by omega) (by omega))
      go_wp2
      go_roundw
      case rel => exact ⟨2, by omega, rfl, by rw [E.out, ← hor.out], by first | rfl | trivial⟩
      case measure => simp [intOf]
    · have hv := beNum_range (ys.take 2) (fun b hb => HY.out b (List.mem_of_mem_take hb))
      have hl : (ys.take 2).length = 2 := by rw [List.length_take]; omega
      rw [hl] at hv
      have E := Lib.hid (beNum_take ys 2 (by omega))
      have hc := HC.out 2 (by omega)
      have hb := HY.out (ys.getD 2 0) (by rw [List.getD_eq_getElem?_getD, List.getElem?_eq_getElem (show 2 < ys.length by omega)]; exact List.getElem_mem _)
      generalize beNum (ys.take 2) = v at *
      generalize ys.getD 2 0 = b at *
      obtain ⟨hv0, hv1⟩ := hv
      obtain ⟨hb0, hb1⟩ := hb
      simp only [Nat.reducePow, Int.reducePow, Int.pow_zero] at hv1
      have hor := Lib.hid (bits_join .u32 32 (by decide) (fun n h0 h1 => by rw [IntKind.wrap_u32]; omega) 8 (v * 256) b (by omega) (by omega) (by omega) hb0 (by omega) (by omega))
      go_wp2
      go_roundw
      case rel => exact ⟨3, by omega, rfl, by rw [E.out, ← hor.out], by first | rfl | trivial⟩
      case measure => simp [intOf]
    · have hv := beNum_range (ys.take 3) (fun b hb => HY.out b (List.mem_of_mem_take hb))
      have hl : (ys.take 3).length = 3 := by rw [List.length_take]; omega
      rw [hl] at hv
      have E := Lib.hid (beNum_take ys 3 (by omega))
      have hc := HC.out 3 (by omega)
      have hb := HY.out (ys.getD 3 0) (by rw [List.getD_eq_getElem?_getD, List.getElem?_eq_getElem (show 3 < ys.length by omega)]; exact List.getElem_mem _)
      generalize beNum (ys.take 3) = v at *
      generalize ys.getD 3 0 = b at *
      obtain ⟨hv0, hv1⟩ := hv
      obtain ⟨hb0, hb1⟩ := hb
      simp only [Nat.reducePow, Int.reducePow, Int.pow_zero] at hv1
      have hor := Lib.hid (bits_join .u32 32 (by decide) (fun n h0 h1 => by rw [IntKind.wrap_u32]; omega) 8 (v * 256) b (by omega) (by omega) (by omega) hb0 (by omega) (by omega))
      go_wp2
      go_roundw
      case rel => exact ⟨4, by omega, rfl, by rw [E.out, ← hor.out], by first | rfl | trivial⟩
      case measure => simp [intOf]
    · go_wp2
      go_ret2
      exact ⟨by rw [List.take_of_length_le (by omega)]; rfl, ⟨m, rfl⟩⟩

set_option maxHeartbeats 400000 in
theorem get64_no (A : Option Addr) (n c : Nat) (at_ : Int) (w : World) (hn : n ≤ 9223372036854775807) (h : at_ < 0 ∨ (n : Int) - 8 < at_) :
    Calls Try.prog 47 #[.slice A n c, .int .i64 at_] w fun e w' => e = .returned (.tuple #[.int .u64 0, .bool false]) ∧ Drawn0 w w' := by
  have hne := fun (w : World) (a : Option Addr) (l c : Nat) => run_neq_slice_nil (P := Try.prog) (w := w) 33 5 a l c Try.underlying33
  have HN := Lib.hid hn
  have HO := Lib.hid h
  clear hn h
  go_enter Try.func47, Try.ntmps47
  go_wp2_with (go_at_call 50; refine (within64_no _ _ _ _ _ HN.out HO.out).mono ?_; rintro e w' ⟨rfl, ⟨m, rfl⟩⟩)
  go_loopw [7, 15] (fun v i wr => v = .int .u64 0 ∧ i = .int .i64 0 ∧ wr = w.drewN m) (fun _ _ _ => 0)
  case atStart => exact ⟨rfl, rfl, rfl⟩
  case round =>
    obtain ⟨rfl, rfl, rfl⟩ := hrel
    go_wp2
    go_ret2
    exact ⟨by first | rfl | simp, ⟨m, rfl⟩⟩

set_option maxHeartbeats 2000000 in
theorem get64_yes (g off : Nat) (n c : Nat) (at_ : Nat) (ys : List Int) (w : World) (hn : n ≤ 9223372036854775807) (hnc : n ≤ c) (h : at_ + 8 ≤ n) (hl : ys.length = 8) (hy : ∀ b ∈ ys, 0 ≤ b ∧ b < 256)
    (hc : ∀ j, j < 8 → w.cell? ⟨g, off + at_ + j, none⟩ = some (.int .u8 (ys.getD j 0))) :
    Calls Try.prog 47 #[.slice (some ⟨g, off, none⟩) n c, .int .i64 at_] w fun e w' => e = .returned (.tuple #[.int .u64 (beNum ys), .bool true]) ∧ Drawn0 w w' := by
  have hne := fun (w : World) (a : Option Addr) (l c : Nat) => run_neq_slice_nil (P := Try.prog) (w := w) 33 5 a l c Try.underlying33
  have HC := Lib.hid hc
  have HY := Lib.hid hy
  have HL := Lib.hid hl
  clear hc hy hl
  go_enter Try.func47, Try.ntmps47
  go_wp2_with (go_at_call 50; refine (within64_yes _ _ _ _ _ _ hn hnc h).mono ?_; rintro e w' ⟨rfl, ⟨m, rfl⟩⟩)
  go_loopw [7, 15] (fun v i wr => ∃ k : Nat, k ≤ 8 ∧ i = .int .i64 k ∧ v = .int .u64 (beNum (ys.take k)) ∧ wr = w.drewN m) (fun _ i _ => 8 - (intOf i).toNat)
  case atStart => exact ⟨0, by omega, rfl, rfl, rfl⟩
  case round =>
    obtain ⟨k, hk, rfl, rfl, rfl⟩ := hrel
    have hl := HL.out
    obtain rfl | rfl | rfl | rfl | rfl | rfl | rfl | rfl | rfl : k = 0 ∨ k = 1 ∨ k = 2 ∨ k = 3 ∨ k = 4 ∨ k = 5 ∨ k = 6 ∨ k = 7 ∨ k = 8 := by omega
    · have hv := beNum_range (ys.take 0) (fun b hb => HY.out b (List.mem_of_mem_take hb))
      have hl : (ys.take 0).length = 0 := by rw [List.length_take]; omega
      rw [hl] at hv
      have E := Lib.hid (beNum_take ys 0 (by omega))
      have hc := HC.out 0 (by omega)
      have hb := HY.out (ys.getD 0 0) (by rw [List.getD_eq_getElem?_getD, List.getElem?_eq_getElem (show 0 < ys.length by omega)]; exact List.getElem_mem _)
      generalize beNum (ys.take 0) = v at *
      generalize ys.getD 0 0 = b at *
      obtain ⟨hv0, hv1⟩ := hv
      obtain ⟨hb0, hb1⟩ := hb
      simp only [Nat.reducePow, Int.reducePow, Int.pow_zero] at hv1
      have hor := Lib.hid (bits_join .u64 64 (by decide) (fun n h0 h1 => by rw [IntKind.wrap_u64]; omega) 8 (v * 256) b (by omega) (by omega) (by omega) hb0 (by omega) (by omega))
      simp only [Nat.add_zero] at hc
      go_wp2
      go_roundw
      case rel => exact ⟨1, by omega, rfl, by rw [E.out, ← hor.out], by first | rfl | trivial⟩
      case measure => simp [intOf]
    · have hv := beNum_range (ys.take 1) (fun b hb => HY.out b (List.mem_of_mem_take hb))
      have hl : (ys.take 1).length = 1 := by rw [List.length_take]; omega
      rw [hl] at hv
      have E := Lib.hid (beNum_take ys 1 (by omega))
      have hc := HC.out 1 (by omega)
      have hb := HY.out (ys.getD 1 0) (by rw [List.getD_eq_getElem?_getD, List.getElem?_eq_getElem (show 1 < ys.length by omega)]; exact List.getElem_mem _)
      generalize beNum (ys.take 1) = v at *
      generalize ys.getD 1 0 = b at *
      obtain ⟨hv0, hv1⟩ := hv
      obtain ⟨hb0, hb1⟩ := hb
      simp only [Nat.reducePow, Int.reducePow, Int.pow_zero] at hv1
      have hor := Lib.hid (bits_join .u64 64 (by decide) (fun n h0 h1 => by rw [IntKind.wrap_u64]; omega) 8 (v * 256) b (by omega) (by omega) (by omega) hb0 (by omega) (by omega))
      go_wp2
      go_roundw
      case rel => exact ⟨2, by omega, rfl, by rw [E.out, ← hor.out], by first | rfl | trivial⟩
      case measure => simp [intOf]
    · have hv := beNum_range (ys.take 2) (fun b hb => HY.out b (List.mem_of_mem_take hb))
      have hl : (ys.take 2).length = 2 := by rw [List.length_take]; omega
      rw [hl] at hv
      have E := Lib.hid (beNum_take ys 2 (by omega))
      have hc := HC.out 2 (by omega)
      have hb := HY.out (ys.getD 2 0) (by rw [List.getD_eq_getElem?_getD, List.getElem?_eq_getElem (show 2 < ys.length by omega)]; exact List.getElem_mem _)
      generalize beNum (ys.take 2) = v at *
      generalize ys.getD 2 0 = b at *
      obtain ⟨hv0, hv1⟩ := hv
      obtain ⟨hb0, hb1⟩ := hb
      simp only [Nat.reducePow, Int.reducePow, Int.pow_zero] at hv1
      have hor := Lib.hid (bits_join .u64 64 (by decide) (fun n h0 h1 => by rw [IntKind.wrap_u64]; omega) 8 (v * 256) b (by omega) (by omega) (by omega) hb0 (by omega) (by omega))
      go_wp2
      go_roundw
      case rel => exact ⟨3, by omega, rfl, by rw [E.out, ← hor.out], by first | rfl | trivial⟩
      case measure => simp [intOf]
    · have hv := beNum_range (ys.take 3) (fun b hb => HY.out b (List.mem_of_mem_take hb))
      have hl : (ys.take 3).length = 3 := by rw [List.length_take]; omega
      rw [hl] at hv
      have E := Lib.hid (beNum_take ys 3 (by omega))
      have hc := HC.out 3 (by omega)
      have hb := HY.out (ys.getD 3 0) (by rw [List.getD_eq_getElem?_getD, List.getElem?_eq_getElem (show 3 < ys.length by omega)]; exact List.getElem_mem _)
      generalize beNum (ys.take 3) = v at *
      generalize ys.getD 3 0 = b at *
      obtain ⟨hv0, hv1⟩ := hv
      obtain ⟨hb0, hb1⟩ := hb
      simp only [Nat.reducePow, Int.reducePow, Int.pow_zero] at hv1
      have hor := Lib.hid (bits_join .u64 64 (by decide) (fun n h0 h1 => by rw [IntKind.wrap_u64]; omega) 8 (v * 256) b (by omega) (by omega) (by omega) hb0 (by omega) (by omega))
      go_wp2
      go_roundw
      case rel => exact ⟨4, by omega, rfl, by rw [E.out, ← hor.out], by first | rfl | trivial⟩
      case measure => simp [intOf]
    · have hv := beNum_range (ys.take 4) (fun b hb => HY.out b (List.mem_of_mem_take hb))
      have hl : (ys.take 4).length = 4 := by rw [List.length_take]; omega
      rw [hl] at hv
      have E := Lib.hid (beNum_take ys 4 (by omega))
      have hc := HC.out 4 (by omega)
      have hb := HY.out (ys.getD 4 0) (by rw [List.getD_eq_getElem?_getD, List.getElem?_eq_getElem (show 4 < ys.length by omega)]; exact List.getElem_mem _)
      generalize beNum (ys.take 4) = v at *
      generalize ys.getD 4 0 = b at *
      obtain ⟨hv0, hv1⟩ := hv
      obtain ⟨hb0, hb1⟩ := hb
      simp only [Nat.reducePow, Int.reducePow, Int.pow_zero] at hv1
      have hor := Lib.hid (bits_join .u64 64 (by decide) (fun n h0 h1 => by rw [IntKind.wrap_u64]; omega) 8 (v * 256) b (by omega) (by omega) (by omega) hb0 (by omega) (by omega))
      go_wp2
      go_roundw
      case rel => exact ⟨5, by omega, rfl, by rw [E.out, ← hor.out], by first | rfl | trivial⟩
      case measure => simp [intOf]
    · have hv := beNum_range (ys.take 5) (fun b hb => HY.out b (List.mem_of_mem_take hb))
      have hl : (ys.take 5).length = 5 := by rw [List.length_take]; omega
      rw [hl] at hv
      have E := Lib.hid (beNum_take ys 5 (by omega))
      have hc := HC.out 5 (by omega)
      have hb := HY.out (ys.getD 5 0) (by rw [List.getD_eq_getElem?_getD, List.getElem?_eq_getElem (show 5 < ys.length by omega)]; exact List.getElem_mem _)
      generalize beNum (ys.take 5) = v at *
      generalize ys.getD 5 0 = b at *
      obtain ⟨hv0, hv1⟩ := hv
      obtain ⟨hb0, hb1⟩ := hb
      simp only [Nat.reducePow, Int.reducePow, Int.pow_zero] at hv1
      have hor := Lib.hid (bits_join .u64 64 (by decide) (fun n h0 h1 => by rw [IntKind.wrap_u64]; omega) 8 (v * 256) b (by omega) (by omega) (by omega) hb0 (by omega) (by omega))
      go_wp2
      go_roundw
      case rel => exact ⟨6, by omega, rfl, by rw [E.out, ← hor.out], by first | rfl | trivial⟩
      case measure => simp [intOf]
    · have hv := beNum_range (ys.take 6) (fun b hb => HY.out b (List.mem_of_mem_take hb))
      have hl : (ys.take 6).length = 6 := by rw [List.length_take]; omega
      rw [hl] at hv
      have E := Lib.hid (beNum_take ys 6 (by omega))
      have hc := HC.out 6 (by omega)
      have hb := HY.out (ys.getD 6 0) (by rw [List.getD_eq_getElem?_getD, List.getElem?_eq_getElem (show 6 < ys.length by omega)]; exact List.getElem_mem _)
      generalize beNum (ys.take 6) = v at *
      generalize ys.getD 6 0 = b at *
      obtain ⟨hv0, hv1⟩ := hv
      obtain ⟨hb0, hb1⟩ := hb
      simp only [Nat.reducePow, Int.reducePow, Int.pow_zero] at hv1
      have hor := Lib.hid (bits_join .u64 64 (by decide) (fun n h0 h1 => by rw [IntKind.wrap_u64]; omega) 8 (v * 256) b (by omega) (by omega) (by omega) hb0 (by omega) (by omega))
      go_wp2
      go_roundw
      case rel => exact ⟨7, by omega, rfl, by rw [E.out, ← hor.out], by first | rfl | trivial⟩
      case measure => simp [intOf]
    · have hv := beNum_range (ys.take 7) (fun b hb => HY.out b (List.mem_of_mem_take hb))
      have hl : (ys.take 7).length = 7 := by rw [List.length_take]; omega
      rw [hl] at hv
      have E := Lib.hid (beNum_take ys 7 (by omega))
      have hc := HC.out 7 (by omega)
      have hb := HY.out (ys.getD 7 0) (by rw [List.getD_eq_getElem?_getD, List.getElem?_eq_getElem (show 7 < ys.length by omega)]; exact List.getElem_mem _)
      generalize beNum (ys.take 7) = v at *
      generalize ys.getD 7 0 = b at *
      obtain ⟨hv0, hv1⟩ := hv
      obtain ⟨hb0, hb1⟩ := hb
      simp only [Nat.reducePow, Int.reducePow, Int.pow_zero] at hv1
      have hor := Lib.hid (bits_join .u64 64 (by decide) (fun n h0 h1 => by rw [IntKind.wrap_u64]; omega) 8 (v * 256) b (by omega) (by omega) (by omega) hb0 (by omega) (by omega))
      go_wp2
      go_roundw
      case rel => exact ⟨8, by omega, rfl, by rw [E.out, ← hor.out], by first | rfl | trivial⟩
      case measure => simp [intOf]
    · go_wp2
      go_ret2
      exact ⟨by rw [List.take_of_length_le (by omega)]; rfl, ⟨m, rfl⟩⟩

end Go.Proofs.Ytbhnhbpamndldaa.Bits

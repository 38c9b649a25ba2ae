/- delta.Make: what it answers. -/
import Derived.Test.YtbhnhbpamndldaaDelta1
import Derived.Test.YtbhnhbpamndldaaBits
import Derived.Outline
namespace Go.Proofs.Ytbhnhbpamndldaa.Delta
open Go.RowKit Go.Proofs.YtbhnhbpamndldaaW.PrintWords Go.Proofs.YtbhnhbpamndldaaW.PrintLast Go.Proofs.YtbhnhbpamndldaaW.PrintMore
open Go.Proofs.Ytbhnhbpamndldaa.Bits
set_option linter.unusedVariables false
set_option linter.unusedSimpArgs false

/-! ### What the two ends have the same -/
def lcpAux (f g : Nat → Int) : Nat → Nat → Nat
  | 0, p => p
  | d + 1, p => if f p = g p then lcpAux f g d (p + 1) else p
theorem lcpAux_is (f g : Nat → Int) (m n : Nat) : ∀ (d p : Nat), min m n - p = d → p ≤ min m n → (∀ i, i < p → f i = g i) → IsSame f g m n (lcpAux f g d p)
  | 0, p, hd, hp, hi => ⟨by show p ≤ m; omega, by show p ≤ n; omega, hi, fun a b => by simp only [lcpAux] at a b; omega⟩
  | d + 1, p, hd, hp, hi => by
    by_cases e : f p = g p
    · rw [lcpAux, if_pos e]
      refine lcpAux_is f g m n d (p + 1) (by omega) (by omega) (fun i h => ?_)
      rcases Nat.lt_succ_iff_lt_or_eq.1 h with h | h
      · exact hi i h
      · rw [h]
        exact e
    · rw [lcpAux, if_neg e]
      exact ⟨by omega, by omega, hi, fun _ _ => e⟩
def lcp (f g : Nat → Int) (m n : Nat) : Nat := lcpAux f g (min m n) 0
theorem lcp_is (f g : Nat → Int) (m n : Nat) : IsSame f g m n (lcp f g m n) := lcpAux_is f g m n _ 0 rfl (by omega) (fun i h => by omega)
def frontN (a b : ByteArray) : Nat := lcp (fun i => bt a (i : Int)) (fun i => bt b (i : Int)) a.size b.size
def backN (a b : ByteArray) : Nat := lcp (fun i => bt a ((a.size - 1 - i : Nat) : Int)) (fun i => bt b ((b.size - 1 - i : Nat) : Int)) a.size b.size
def midS (a b : ByteArray) : Nat := backN (a.extract (frontN a b) a.size) (b.extract (frontN a b) b.size)
def delta_Make.f (a b : ByteArray) : Option (ByteArray × Int) :=
  if a.size > 256 ∨ b.size > 256 then some (⟨#[]⟩, 40)
  else some (strOfNums (be16 (frontN a b) ++ be16 (midS a b)) ++ b.extract (frontN a b) (b.size - midS a b), 0)

/-! ### The four bytes of the two numbers -/
def Arr4 (W : World) (g : Nat) (ys : List Int) : Prop := ys.length = 4 ∧ ∀ j, j < 4 → W.cell? ⟨g, j, none⟩ = some (.int .u8 (ys.getD j 0)) ∧ W.frozen? ⟨g, j, none⟩ = false
theorem arr4_new (w : World) (t : TypeId) : Arr4 (w.alloc (.cells #[.int .u8 0, .int .u8 0, .int .u8 0, .int .u8 0] t)) w.heap.size [0, 0, 0, 0] := by
  have hb := heap_alloc_new w (.cells #[.int .u8 0, .int .u8 0, .int .u8 0, .int .u8 0] t)
  refine ⟨rfl, fun j hj => ⟨?_, frozen_of_row _ _ j _ t hb⟩⟩
  rw [cell_of_row _ _ j _ t (0, 0) hb]
  have h : j = 0 ∨ j = 1 ∨ j = 2 ∨ j = 3 := by omega
  rcases h with rfl | rfl | rfl | rfl <;> rfl
theorem arr4_put {W : World} {g : Nat} {a b c d : Int} (h : Arr4 W g [a, b, c, d]) (x : Int) (m : Nat) :
    Arr4 ((W.setCells g 0 (cells16 x)).drewN m) g (be16 x ++ [c, d]) ∧ Arr4 ((W.setCells g 2 (cells16 x)).drewN m) g ([a, b] ++ be16 x) := by
  have some_ : ∀ o, o + 2 ≤ 4 → ∀ j, j < (cells16 x).length → (W.cell? ⟨g, o + j, none⟩).isSome = true := fun o ho j hj => by
    rw [(h.2 (o + j) (by have : (cells16 x).length = 2 := rfl; omega)).1]
    rfl
  have fz : ∀ o j, j < 4 → ((W.setCells g o (cells16 x)).drewN m).frozen? ⟨g, j, none⟩ = false := fun o j hj => by
    rw [World.frozen?_drewN, World.frozen?_setCells]
    exact (h.2 j hj).2
  refine ⟨⟨rfl, fun j hj => ⟨?_, fz 0 j hj⟩⟩, ⟨rfl, fun j hj => ⟨?_, fz 2 j hj⟩⟩⟩
  · rw [World.cell?_drewN]
    by_cases hj2 : j < 2
    · have := World.cell?_setCells_in g (cells16 x) 0 W (some_ 0 (by omega)) j hj2
      rw [Nat.zero_add] at this
      rw [this]
      have h : j = 0 ∨ j = 1 := by omega
      rcases h with rfl | rfl <;> rfl
    · rw [World.cell?_setCells_out g _ 0 W _ (fun _ _ => .inr (by show 0 + 2 ≤ j; omega)), (h.2 j hj).1]
      have h : j = 2 ∨ j = 3 := by omega
      rcases h with rfl | rfl <;> rfl
  · rw [World.cell?_drewN]
    by_cases hj2 : j < 2
    · rw [World.cell?_setCells_out g _ 2 W _ (fun _ _ => .inl (by show j < 2; omega)), (h.2 j hj).1]
      have h : j = 0 ∨ j = 1 := by omega
      rcases h with rfl | rfl <;> rfl
    · obtain ⟨i, rfl⟩ := Nat.exists_eq_add_of_le (show 2 ≤ j by omega)
      have := World.cell?_setCells_in g (cells16 x) 2 W (some_ 2 (by omega)) i (by show i < 2; omega)
      rw [this]
      have h : i = 0 ∨ i = 1 := by omega
      rcases h with rfl | rfl <;> rfl
set_option maxHeartbeats 400000 in
theorem Put16_at (g n c at_ : Nat) (x : Int) (hx0 : 0 ≤ x) (w : World) (hn : n ≤ 9223372036854775807) (hnc : n ≤ c) (h : at_ + 2 ≤ n) (hc : CanPut w g at_ 2) :
    Calls Try.prog 33 #[.slice (some ⟨g, 0, none⟩) n c, .int .i64 at_, .int .u16 x] w fun e w' => e = .returned (.bool true) ∧ ∃ m, w' = (w.setCells g at_ (cells16 x)).drewN m := by
  have HC : Hid (CanPut w g (0 + at_) 2) := by rw [Nat.zero_add]; exact hc
  clear hc
  go_enter Try.func33, Try.ntmps33
  go_wp2_with fail
  refine (put16_yes g 0 n c at_ x hx0 _ hn hnc h HC.out).mono ?_
  rintro e w' ⟨rfl, m, rfl⟩
  rw [Nat.zero_add]
  go_wp2
  go_ret
  exact ⟨rfl, m, rfl⟩
theorem Arr4.can {W : World} {g : Nat} {ys : List Int} (h : Arr4 W g ys) (o : Nat) (ho : o + 2 ≤ 4) : CanPut W g o 2 := fun j hj => ⟨⟨_, (h.2 (o + j) (by omega)).1⟩, (h.2 (o + j) (by omega)).2⟩
theorem below_cells16 {B g : Nat} {w W : World} (h : Below B w W) (hg : B ≤ g) (o : Nat) (x : Int) (m : Nat) : Below B w ((W.setCells g o (cells16 x)).drewN m) :=
  pw_below_drewN (h.trans (show Below B W (W.setCells g o (cells16 x)) from ((Below.refl B W).setCell (p := ⟨g, o, none⟩) hg _).setCell (p := ⟨g, o + 1, none⟩) hg _)) m

/-- Put16(b[:], 0, p). -/
theorem put_first (B g : Nat) (w0 W : World) (a b c d x : Int) (hx : 0 ≤ x) (h : Arr4 W g [a, b, c, d]) (hB : Below B w0 W) (hg : B ≤ g) :
    Calls Try.prog 33 #[.slice (some ⟨g, 0, none⟩) 4 4, .int .i64 0, .int .u16 x] W fun e W' => e = .returned (.bool true) ∧ Arr4 W' g (be16 x ++ [c, d]) ∧ Below B w0 W' := by
  refine (Put16_at g 4 4 0 x hx W (by omega) (by omega) (by omega) (h.can 0 (by omega))).mono ?_
  rintro e w' ⟨rfl, m, rfl⟩
  exact ⟨rfl, (arr4_put h x m).1, below_cells16 hB hg 0 x m⟩
theorem put_second (B g : Nat) (w0 W : World) (l : List Int) (c d x : Int) (hl : l.length = 2) (hx : 0 ≤ x) (h : Arr4 W g (l ++ [c, d])) (hB : Below B w0 W) (hg : B ≤ g) :
    Calls Try.prog 33 #[.slice (some ⟨g, 0, none⟩) 4 4, .int .i64 2, .int .u16 x] W fun e W' => e = .returned (.bool true) ∧ Arr4 W' g (l ++ be16 x) ∧ Below B w0 W' := by
  match l, hl with
  | [a, b], _ =>
    refine (Put16_at g 4 4 2 x hx W (by omega) (by omega) (by omega) (h.can 2 (by omega))).mono ?_
    rintro e w' ⟨rfl, m, rfl⟩
    exact ⟨rfl, (arr4_put h x m).2, below_cells16 hB hg 2 x m⟩
theorem str_of_arr {W : World} {g : Nat} {ys : List Int} (h : Arr4 W g ys) (nq : Nat) : (convert 33 9 (.slice (some ⟨g, 0, none⟩) 4 4)).run Try.prog (W.drewN nq) = .ok (.string (strOfNums ys)) (W.drewN nq) :=
  run_convert_bytes_arg (W.drewN nq) 33 5 Try.underlying33 Try.underlying5 g 0 4 4 ys h.1 (fun i hi => by rw [Nat.zero_add]; exact (h.2 i hi).1) 9 Try.underlying9

set_option maxHeartbeats 1000000 in
theorem make_main (a b : ByteArray) (w : World) (ha : a.size ≤ 256) (hb : b.size ≤ 256) (p s : Nat) (hp : IsSame (fun i => bt a (i : Int)) (fun i => bt b (i : Int)) a.size b.size p)
    (hs : IsSame (fun i => bt (a.extract p a.size) (((a.extract p a.size).size - 1 - i : Nat) : Int)) (fun i => bt (b.extract p b.size) (((b.extract p b.size).size - 1 - i : Nat) : Int)) (a.extract p a.size).size (b.extract p b.size).size s) :
    Calls Try.prog 27 #[.string a, .string b] w fun e w' => e = .returned (.tuple #[.string (strOfNums (be16 p ++ be16 s) ++ b.extract p (b.size - s)), .int .i64 0]) ∧ Below w.heap.size w w' := by
  have hpa : p ≤ a.size := hp.1
  have hpb : p ≤ b.size := hp.2.1
  have HP := Lib.hid hp
  have HS := Lib.hid hs
  clear hp hs
  have g1 : decide ((a.size : Int) > 256) = false := decide_eq_false (by omega)
  have g2 : decide ((b.size : Int) > 256) = false := decide_eq_false (by omega)
  go_enter Try.func27, Try.ntmps27
  go_wp2_with fail
  refine (same_front a b _ (by omega) (by omega) p HP.out).mono ?_
  rintro e w' ⟨rfl, rfl⟩
  go_wp2_with fail
  go_quiet ((go_at_call 41; exact Calls.quiet_of_same (same_back _ _ _ (by simp; omega) (by simp; omega) s HS.out)))
  have hsa := (HS.out).1
  have hsb := (HS.out).2.1
  simp only [ByteArray.size_extract, Nat.min_self] at hsa hsb
  go_wp2_with fail
  have hA := arr4_new (w'.drewN nq) 65
  have hB : Below w'.heap.size w' ((w'.drewN nq).alloc (.cells #[.int .u8 0, .int .u8 0, .int .u8 0, .int .u8 0] 65)) := (pw_below_drewN (Below.refl _ _) nq).alloc (by simp) _
  refine (put_first w'.heap.size w'.heap.size w' _ 0 0 0 0 p (by omega) hA hB (Nat.le_refl _)).mono ?_
  rintro e W1 ⟨rfl, hA1, hB1⟩
  have HA1 := Lib.hid hA1
  have HB1 := Lib.hid hB1
  clear hA hB hA1 hB1
  go_wp2_with fail
  refine (put_second w'.heap.size w'.heap.size w' _ (be16 p) 0 0 s rfl (by omega) HA1.out HB1.out (Nat.le_refl _)).mono ?_
  rintro e W2 ⟨rfl, hA2, hB2⟩
  have HB2 := Lib.hid hB2
  have hcv := fun nq => str_of_arr hA2 nq
  clear hA2 hB2 HA1 HB1
  go_wp2_with fail
  have e1 : IntKind.i64.wrap ((b.size : Int) - (s : Int)) = ((b.size - s : Nat) : Int) := by rw [IntKind.wrap_i64]; omega
  have e2 : p ≤ b.size - s := by omega
  have e3 : b.size - s ≤ b.size := by omega
  have e4 : (strOfNums (be16 (p : Int) ++ be16 (s : Int))).size = 4 := rfl
  have e5 : (b.extract p (b.size - s)).size ≤ 256 := by rw [ByteArray.size_extract]; omega
  have e6 : ¬ 9223372036854775807 < (strOfNums (be16 (p : Int) ++ be16 (s : Int))).size + (b.extract p (b.size - s)).size := by omega
  have E4 := Lib.hid e4
  clear e4 hsa hsb
  go_quiet (fail)
  go_wp2
  go_ret2
  exact ⟨rfl, pw_below_drewN HB2.out _⟩
set_option maxHeartbeats 400000 in
theorem make_big (a b : ByteArray) (w : World) (h : a.size > 256 ∨ b.size > 256) :
    Calls Try.prog 27 #[.string a, .string b] w fun e w' => e = .returned (.tuple #[.string ⟨#[]⟩, .int .i64 40]) ∧ Below w.heap.size w w' := by
  by_cases h1 : a.size > 256
  · have g1 : decide ((a.size : Int) > 256) = true := decide_eq_true (by omega)
    go_enter Try.func27, Try.ntmps27
    go_wp2
    go_ret2
    exact ⟨rfl, Below.refl _ _⟩
  · have g1 : decide ((a.size : Int) > 256) = false := decide_eq_false (by omega)
    have g2 : decide ((b.size : Int) > 256) = true := decide_eq_true (by omega)
    go_enter Try.func27, Try.ntmps27
    go_wp2
    go_ret2
    exact ⟨rfl, Below.refl _ _⟩

theorem delta_Make.calls (a0 : ByteArray) (a1 : ByteArray) (r1 : ByteArray) (r2 : Int) (w : World) (h : delta_Make.f a0 a1 = some (r1, r2)) :
    Calls Try.prog 27 #[.string a0, .string a1] w fun e w' => e = .returned (.tuple #[.string r1, .int .i64 r2]) ∧ Below w.heap.size w w' := by
  unfold delta_Make.f at h
  by_cases hc : a0.size > 256 ∨ a1.size > 256
  · rw [if_pos hc] at h
    simp only [Option.some.injEq, Prod.mk.injEq] at h
    obtain ⟨rfl, rfl⟩ := h
    exact make_big a0 a1 w hc
  · rw [if_neg hc] at h
    simp only [Option.some.injEq, Prod.mk.injEq] at h
    obtain ⟨rfl, rfl⟩ := h
    exact make_main a0 a1 w (by omega) (by omega) _ _ (lcp_is _ _ _ _) (lcp_is _ _ _ _)

end Go.Proofs.Ytbhnhbpamndldaa.Delta

/- bits.Put16, Put32, Put64, Get16, Get32, Get64: their contracts over rows of bytes, in the form that the printed walks take. -/
import Derived.Test.YtbhnhbpamndldaaPutget
namespace Go.Proofs.Ytbhnhbpamndldaa.Bits
open Go.RowKit Go.Proofs.YtbhnhbpamndldaaW.PrintWords Go.Proofs.YtbhnhbpamndldaaW.PrintLast Go.Proofs.YtbhnhbpamndldaaW.PrintMore
set_option linter.unusedVariables false
set_option linter.unusedSimpArgs false

attribute [local irreducible] be16 be32 be64
theorem cells16_eq (x : Int) : cells16 x = (be16 x).map (Value.int .u8) := rfl
theorem cells32_eq (x : Int) : cells32 x = (be32 x).map (Value.int .u8) := rfl
theorem cells64_eq (x : Int) : cells64 x = (be64 x).map (Value.int .u8) := rfl
/-- A list with other bytes at a place. -/
def putL : List Int → Nat → List Int → List Int
  | l, _, [] => l
  | l, a, b :: bs => putL (l.set a b) (a + 1) bs
theorem putL_length : ∀ (bs : List Int) (l : List Int) (a : Nat), (putL l a bs).length = l.length
  | [], _, _ => rfl
  | b :: bs, l, a => by rw [putL, putL_length bs]; simp

/-- What a number is put into: the list behind it. -/
def putF (W : Nat) (l : List Int) (a : Int) (bs : List Int) : Bool × List Int := if 0 ≤ a ∧ a + W ≤ l.length then (true, putL l a.toNat bs) else (false, l)
/-- What is got of a list. -/
def getF (W : Nat) (l : List Int) (a : Int) : Int × Bool := if 0 ≤ a ∧ a + W ≤ l.length then (beNum ((l.drop a.toNat).take W), true) else (0, false)
def IsBytes (l : List Int) : Prop := ∀ b ∈ l, 0 ≤ b ∧ b < 256
instance (l : List Int) : Decidable (IsBytes l) := inferInstanceAs (Decidable (∀ b ∈ l, 0 ≤ b ∧ b < 256))

theorem R_cells {g n cap base : Nat} {ok : Nat → Prop} : ∀ (bs : List Int) (o : Nat) {W : World} {xs : List Int}, Kd.R (Kd.int .u8) 5 W base ok (.slice (some ⟨g, 0, none⟩) n cap) xs →
    Kd.R (Kd.int .u8) 5 (W.setCells g o (bs.map (Value.int .u8))) base ok (.slice (some ⟨g, 0, none⟩) n cap) (putL xs o bs)
  | [], _, _, _, h => h
  | b :: bs, o, W, xs, h => by
    have h2 := Kd.R_putn (enc := Value.int .u8) (h1 := fun _ => rfl) h (o : Int) b
    rw [Int.toNat_natCast] at h2
    exact R_cells bs (o + 1) h2
theorem kept_cells {g : Nat} {S : Nat → Prop} {w : World} (hg : S g) : ∀ (vs : List Value) (o : Nat) {W : World}, Kept w W S → Kept w (W.setCells g o vs) S
  | [], _, _, h => h
  | v :: vs, o, W, h => kept_cells hg vs (o + 1) (h.setCell (p := ⟨g, o, none⟩) (.inl hg) v)
theorem below_cells {g B : Nat} {w : World} (hg : B ≤ g) : ∀ (vs : List Value) (o : Nat) {W : World}, Below B w W → Below B w (W.setCells g o vs)
  | [], _, _, h => h
  | v :: vs, o, W, h => below_cells hg vs (o + 1) (h.setCell (p := ⟨g, o, none⟩) hg v)

/-- A row of the call's own that holds something: where it lies. -/
theorem own_place {W : World} {base : Nat} {ok : Nat → Prop} {v : Value} {xs : List Int} (h : Kd.R (Kd.int .u8) 5 W base ok v xs) (hn : 0 < xs.length) :
    ∃ g cap, v = .slice (some ⟨g, 0, none⟩) xs.length cap ∧ xs.length ≤ cap ∧ xs.length ≤ 9223372036854775807 ∧ base ≤ g ∧ ok g ∧ ∀ j, j < xs.length → (∃ v, W.cell? ⟨g, j, none⟩ = some (.int .u8 v)) ∧ W.frozen? ⟨g, j, none⟩ = false := by
  obtain ⟨inner, ho⟩ := Kd.R_own h
  obtain ⟨A, c, he, hlc, hC⟩ := Kd.R_reads h
  rcases ho.2 with ⟨h1, h2⟩ | ⟨g, cap, cur, rfl, hb, hh, hnc, hm, hs, htk⟩
  · omega
  · refine ⟨g, cap, rfl, hnc, ?_, hb, h.1 g (by simp [Value.ownBlock]), fun j hj => ?_⟩
    · simp only [maxLen] at hm
      omega
    · have := Kd.R_cell (enc := Value.int .u8) (h1 := fun _ => rfl) (0 : Int) h (j : Int) (by omega) (by omega)
      rw [Int.toNat_natCast] at this
      exact ⟨⟨_, this.1⟩, this.2⟩

def bits_Put16.f (l : List Int) (a x : Int) : Option (Bool × List Int) := if 0 ≤ x then some (putF 2 l a (be16 x)) else none
def bits_Get16.f (l : List Int) (a : Int) : Option (Int × Bool) := if IsBytes l then some (getF 2 l a) else none

set_option maxHeartbeats 400000 in
theorem put16_inner (P0_ : Nat → Prop) (u : Value) (l0 : List Int) (a1 : Int) (a2 : Int) (r1 : Bool) (r2 : List Int) (w0 w : World) (hB : Below w0.heap.size w0 w) (ho0 : Kd.R (Kd.int .u8) 5 w w0.heap.size P0_ u l0) (h : bits_Put16.f l0 a1 a2 = some (r1, r2)) :
    Calls Try.prog 46 #[u, .int .i64 a1, .int .u16 a2] w fun e w' => e = .returned (.bool r1) ∧ Kd.R (Kd.int .u8) 5 w' w0.heap.size P0_ u r2 ∧ Below w0.heap.size w0 w' ∧ Kept w w' P0_ := by
  unfold bits_Put16.f at h
  by_cases hx : 0 ≤ a2
  · rw [if_pos hx] at h
    unfold putF at h
    by_cases hin : 0 ≤ a1 ∧ a1 + (2 : Nat) ≤ (l0.length : Int)
    · rw [if_pos hin] at h
      simp only [Option.some.injEq, Prod.mk.injEq] at h
      obtain ⟨rfl, rfl⟩ := h
      obtain ⟨at_, rfl⟩ := Int.eq_ofNat_of_zero_le hin.1
      have hle : at_ + 2 ≤ l0.length := by have := hin.2; omega
      obtain ⟨g, cap, rfl, hlc, hmx, hb, hok, hcl⟩ := own_place ho0 (by omega)
      refine (put16_yes g 0 l0.length cap at_ a2 hx w hmx hlc hle (fun j hj => by rw [Nat.zero_add]; exact hcl _ (by omega))).mono ?_
      rintro e w' ⟨rfl, m, rfl⟩
      rw [Nat.zero_add, Int.toNat_natCast, cells16_eq]
      exact ⟨rfl, R_cells (be16 a2) at_ ho0, pw_below_drewN (below_cells hb _ _ hB) m, (kept_cells hok _ _ (Kept.refl _ _)).drewN m⟩
    · rw [if_neg hin] at h
      simp only [Option.some.injEq, Prod.mk.injEq] at h
      obtain ⟨rfl, rfl⟩ := h
      obtain ⟨A, c, rfl, hlc, hC⟩ := Kd.R_reads ho0
      have hmx : l0.length ≤ 9223372036854775807 := by
        by_cases hz : 0 < l0.length
        · obtain ⟨_, _, _, _, hm, _⟩ := own_place ho0 hz
          exact hm
        · omega
      refine (put16_no A l0.length c a1 a2 w hmx (by omega)).mono ?_
      rintro e w' ⟨rfl, ⟨m, rfl⟩⟩
      exact ⟨rfl, ho0, pw_below_drewN hB m, (Kept.refl _ _).drewN m⟩
  · rw [if_neg hx] at h
    simp at h

set_option maxHeartbeats 400000 in
theorem bits_Put16.calls (P0_ : Nat → Prop) (u9000_ : Value) (l0 : List Int) (a1 : Int) (a2 : Int) (r1 : Bool) (r2 : List Int) (w0 w : World) (hB : Below w0.heap.size w0 w) (ho0 : Kd.R (Kd.int .u8) 5 w w0.heap.size P0_ u9000_ l0) (h : bits_Put16.f l0 a1 a2 = some (r1, r2)) :
    Calls Try.prog 33 #[u9000_, .int .i64 a1, .int .u16 a2] w fun e w' => e = .returned (.bool r1) ∧ Kd.R (Kd.int .u8) 5 w' w0.heap.size (fun k_ => (P0_ k_ ∨ w.heap.size ≤ k_)) u9000_ r2 ∧ Below w0.heap.size w0 w' ∧ Kept w w' (fun k_ => P0_ k_) := by
  have HO := Lib.hid ho0
  have HH := Lib.hid h
  have HB := Lib.hid hB
  clear ho0 h hB
  go_enter Try.func33, Try.ntmps33
  go_wp2_with (go_at_call 46; refine (put16_inner P0_ u9000_ l0 a1 a2 r1 r2 w0 _ HB.out HO.out HH.out).mono ?_; rintro e w' ⟨rfl, h1, h2, h3⟩; have H1 := Lib.hid h1; have H2 := Lib.hid h2; have H3 := Lib.hid h3; clear h1 h2 h3)
  go_ret
  exact ⟨rfl, Kd.R_mono H1.out (fun k hk => .inl hk), H2.out, H3.out⟩

set_option maxHeartbeats 400000 in
theorem get16_inner (A0 : Option Addr) (c0 : Nat) (l0 : List Int) (a1 : Int) (r1 : Int) (r2 : Bool) (w : World) (hr0 : Kd.C (Kd.int .u8) w A0 l0.length l0) (hc0 : l0.length ≤ c0) (h : bits_Get16.f l0 a1 = some (r1, r2)) :
    Calls Try.prog 49 #[.slice A0 l0.length c0, .int .i64 a1] w fun e w' => e = .returned (.tuple #[.int .u16 r1, .bool r2]) ∧ Drawn0 w w' := by
  unfold bits_Get16.f at h
  by_cases hx : IsBytes l0
  · rw [if_pos hx] at h
    have hmx : l0.length ≤ 9223372036854775807 := (Kd.reads_of_C (enc := Value.int .u8) (d := (0 : Int)) (h1 := fun _ => rfl) hr0).2.1
    unfold getF at h
    by_cases hin : 0 ≤ a1 ∧ a1 + (2 : Nat) ≤ (l0.length : Int)
    · rw [if_pos hin] at h
      simp only [Option.some.injEq, Prod.mk.injEq] at h
      obtain ⟨rfl, rfl⟩ := h
      obtain ⟨at_, rfl⟩ := Int.eq_ofNat_of_zero_le hin.1
      have hle : at_ + 2 ≤ l0.length := by have := hin.2; omega
      obtain ⟨ad, rfl, hc⟩ := Kd.at_int hr0 (at_ : Int) (by omega) (by omega)
      obtain ⟨b, off, spot⟩ := ad
      have hspot : spot = none := by
        obtain ⟨ad, e, hc2⟩ := Kd.at_int hr0 (0 : Int) (by omega) (by omega)
        cases e
        simpa [Addr.add] using World.cell?_spot hc2
      subst hspot
      rw [Int.toNat_natCast]
      refine get16_yes b off l0.length c0 at_ _ w hmx hc0 hle (by rw [List.length_take, List.length_drop]; omega) (fun x hm => hx x (List.mem_of_mem_drop (List.mem_of_mem_take hm))) (fun j hj => ?_)
      obtain ⟨ad, e, hc⟩ := Kd.at_int hr0 ((at_ + j : Nat) : Int) (by omega) (by omega)
      cases e
      rw [Int.toNat_natCast] at hc
      have ha : (⟨b, off, none⟩ : Addr).add (at_ + j) = ⟨b, off + at_ + j, none⟩ := by unfold Addr.add; split <;> simp_all <;> omega
      rw [ha] at hc
      rw [hc]
      simp only [rd, Int.toNat_natCast, List.getD_eq_getElem?_getD, List.getElem?_take, List.getElem?_drop]
      rw [if_pos hj]
    · rw [if_neg hin] at h
      simp only [Option.some.injEq, Prod.mk.injEq] at h
      obtain ⟨rfl, rfl⟩ := h
      exact get16_no A0 l0.length c0 a1 w hmx (by omega)
  · rw [if_neg hx] at h
    simp at h

set_option maxHeartbeats 400000 in
theorem bits_Get16.calls (A0 : Option Addr) (c0 : Nat) (l0 : List Int) (a1 : Int) (r1 : Int) (r2 : Bool) (w : World) (hr0 : Kd.C (Kd.int .u8) w A0 l0.length l0) (hc0 : l0.length ≤ c0) (h : bits_Get16.f l0 a1 = some (r1, r2)) :
    Calls Try.prog 36 #[.slice A0 l0.length c0, .int .i64 a1] w fun e w' => e = .returned (.tuple #[.int .u16 r1, .bool r2]) ∧ Drawn0 w w' := by
  have HR := Lib.hid hr0
  have HH := Lib.hid h
  have HC := Lib.hid hc0
  clear hr0 h hc0
  go_enter Try.func36, Try.ntmps36
  go_wp2_with (go_at_call 49; refine (get16_inner A0 c0 l0 a1 r1 r2 _ HR.out HC.out HH.out).mono ?_; rintro e w' ⟨rfl, ⟨m, rfl⟩⟩)
  go_ret2
  exact ⟨rfl, ⟨m, rfl⟩⟩

def bits_Put32.f (l : List Int) (a x : Int) : Option (Bool × List Int) := if 0 ≤ x then some (putF 4 l a (be32 x)) else none
def bits_Get32.f (l : List Int) (a : Int) : Option (Int × Bool) := if IsBytes l then some (getF 4 l a) else none

set_option maxHeartbeats 400000 in
theorem put32_inner (P0_ : Nat → Prop) (u : Value) (l0 : List Int) (a1 : Int) (a2 : Int) (r1 : Bool) (r2 : List Int) (w0 w : World) (hB : Below w0.heap.size w0 w) (ho0 : Kd.R (Kd.int .u8) 5 w w0.heap.size P0_ u l0) (h : bits_Put32.f l0 a1 a2 = some (r1, r2)) :
    Calls Try.prog 40 #[u, .int .i64 a1, .int .u32 a2] w fun e w' => e = .returned (.bool r1) ∧ Kd.R (Kd.int .u8) 5 w' w0.heap.size P0_ u r2 ∧ Below w0.heap.size w0 w' ∧ Kept w w' P0_ := by
  unfold bits_Put32.f at h
  by_cases hx : 0 ≤ a2
  · rw [if_pos hx] at h
    unfold putF at h
    by_cases hin : 0 ≤ a1 ∧ a1 + (4 : Nat) ≤ (l0.length : Int)
    · rw [if_pos hin] at h
      simp only [Option.some.injEq, Prod.mk.injEq] at h
      obtain ⟨rfl, rfl⟩ := h
      obtain ⟨at_, rfl⟩ := Int.eq_ofNat_of_zero_le hin.1
      have hle : at_ + 4 ≤ l0.length := by have := hin.2; omega
      obtain ⟨g, cap, rfl, hlc, hmx, hb, hok, hcl⟩ := own_place ho0 (by omega)
      refine (put32_yes g 0 l0.length cap at_ a2 hx w hmx hlc hle (fun j hj => by rw [Nat.zero_add]; exact hcl _ (by omega))).mono ?_
      rintro e w' ⟨rfl, m, rfl⟩
      rw [Nat.zero_add, Int.toNat_natCast, cells32_eq]
      exact ⟨rfl, R_cells (be32 a2) at_ ho0, pw_below_drewN (below_cells hb _ _ hB) m, (kept_cells hok _ _ (Kept.refl _ _)).drewN m⟩
    · rw [if_neg hin] at h
      simp only [Option.some.injEq, Prod.mk.injEq] at h
      obtain ⟨rfl, rfl⟩ := h
      obtain ⟨A, c, rfl, hlc, hC⟩ := Kd.R_reads ho0
      have hmx : l0.length ≤ 9223372036854775807 := by
        by_cases hz : 0 < l0.length
        · obtain ⟨_, _, _, _, hm, _⟩ := own_place ho0 hz
          exact hm
        · omega
      refine (put32_no A l0.length c a1 a2 w hmx (by omega)).mono ?_
      rintro e w' ⟨rfl, ⟨m, rfl⟩⟩
      exact ⟨rfl, ho0, pw_below_drewN hB m, (Kept.refl _ _).drewN m⟩
  · rw [if_neg hx] at h
    simp at h

set_option maxHeartbeats 400000 in
theorem bits_Put32.calls (P0_ : Nat → Prop) (u9000_ : Value) (l0 : List Int) (a1 : Int) (a2 : Int) (r1 : Bool) (r2 : List Int) (w0 w : World) (hB : Below w0.heap.size w0 w) (ho0 : Kd.R (Kd.int .u8) 5 w w0.heap.size P0_ u9000_ l0) (h : bits_Put32.f l0 a1 a2 = some (r1, r2)) :
    Calls Try.prog 23 #[u9000_, .int .i64 a1, .int .u32 a2] w fun e w' => e = .returned (.bool r1) ∧ Kd.R (Kd.int .u8) 5 w' w0.heap.size (fun k_ => (P0_ k_ ∨ w.heap.size ≤ k_)) u9000_ r2 ∧ Below w0.heap.size w0 w' ∧ Kept w w' (fun k_ => P0_ k_) := by
  have HO := Lib.hid ho0
  have HH := Lib.hid h
  have HB := Lib.hid hB
  clear ho0 h hB
  go_enter Try.func23, Try.ntmps23
  go_wp2_with (go_at_call 40; refine (put32_inner P0_ u9000_ l0 a1 a2 r1 r2 w0 _ HB.out HO.out HH.out).mono ?_; rintro e w' ⟨rfl, h1, h2, h3⟩; have H1 := Lib.hid h1; have H2 := Lib.hid h2; have H3 := Lib.hid h3; clear h1 h2 h3)
  go_ret
  exact ⟨rfl, Kd.R_mono H1.out (fun k hk => .inl hk), H2.out, H3.out⟩

set_option maxHeartbeats 400000 in
theorem get32_inner (A0 : Option Addr) (c0 : Nat) (l0 : List Int) (a1 : Int) (r1 : Int) (r2 : Bool) (w : World) (hr0 : Kd.C (Kd.int .u8) w A0 l0.length l0) (hc0 : l0.length ≤ c0) (h : bits_Get32.f l0 a1 = some (r1, r2)) :
    Calls Try.prog 48 #[.slice A0 l0.length c0, .int .i64 a1] w fun e w' => e = .returned (.tuple #[.int .u32 r1, .bool r2]) ∧ Drawn0 w w' := by
  unfold bits_Get32.f at h
  by_cases hx : IsBytes l0
  · rw [if_pos hx] at h
    have hmx : l0.length ≤ 9223372036854775807 := (Kd.reads_of_C (enc := Value.int .u8) (d := (0 : Int)) (h1 := fun _ => rfl) hr0).2.1
    unfold getF at h
    by_cases hin : 0 ≤ a1 ∧ a1 + (4 : Nat) ≤ (l0.length : Int)
    · rw [if_pos hin] at h
      simp only [Option.some.injEq, Prod.mk.injEq] at h
      obtain ⟨rfl, rfl⟩ := h
      obtain ⟨at_, rfl⟩ := Int.eq_ofNat_of_zero_le hin.1
      have hle : at_ + 4 ≤ l0.length := by have := hin.2; omega
      obtain ⟨ad, rfl, hc⟩ := Kd.at_int hr0 (at_ : Int) (by omega) (by omega)
      obtain ⟨b, off, spot⟩ := ad
      have hspot : spot = none := by
        obtain ⟨ad, e, hc2⟩ := Kd.at_int hr0 (0 : Int) (by omega) (by omega)
        cases e
        simpa [Addr.add] using World.cell?_spot hc2
      subst hspot
      rw [Int.toNat_natCast]
      refine get32_yes b off l0.length c0 at_ _ w hmx hc0 hle (by rw [List.length_take, List.length_drop]; omega) (fun x hm => hx x (List.mem_of_mem_drop (List.mem_of_mem_take hm))) (fun j hj => ?_)
      obtain ⟨ad, e, hc⟩ := Kd.at_int hr0 ((at_ + j : Nat) : Int) (by omega) (by omega)
      cases e
      rw [Int.toNat_natCast] at hc
      have ha : (⟨b, off, none⟩ : Addr).add (at_ + j) = ⟨b, off + at_ + j, none⟩ := by unfold Addr.add; split <;> simp_all <;> omega
      rw [ha] at hc
      rw [hc]
      simp only [rd, Int.toNat_natCast, List.getD_eq_getElem?_getD, List.getElem?_take, List.getElem?_drop]
      rw [if_pos hj]
    · rw [if_neg hin] at h
      simp only [Option.some.injEq, Prod.mk.injEq] at h
      obtain ⟨rfl, rfl⟩ := h
      exact get32_no A0 l0.length c0 a1 w hmx (by omega)
  · rw [if_neg hx] at h
    simp at h

set_option maxHeartbeats 400000 in
theorem bits_Get32.calls (A0 : Option Addr) (c0 : Nat) (l0 : List Int) (a1 : Int) (r1 : Int) (r2 : Bool) (w : World) (hr0 : Kd.C (Kd.int .u8) w A0 l0.length l0) (hc0 : l0.length ≤ c0) (h : bits_Get32.f l0 a1 = some (r1, r2)) :
    Calls Try.prog 35 #[.slice A0 l0.length c0, .int .i64 a1] w fun e w' => e = .returned (.tuple #[.int .u32 r1, .bool r2]) ∧ Drawn0 w w' := by
  have HR := Lib.hid hr0
  have HH := Lib.hid h
  have HC := Lib.hid hc0
  clear hr0 h hc0
  go_enter Try.func35, Try.ntmps35
  go_wp2_with (go_at_call 48; refine (get32_inner A0 c0 l0 a1 r1 r2 _ HR.out HC.out HH.out).mono ?_; rintro e w' ⟨rfl, ⟨m, rfl⟩⟩)
  go_ret2
  exact ⟨rfl, ⟨m, rfl⟩⟩

def bits_Put64.f (l : List Int) (a x : Int) : Option (Bool × List Int) := if 0 ≤ x then some (putF 8 l a (be64 x)) else none
def bits_Get64.f (l : List Int) (a : Int) : Option (Int × Bool) := if IsBytes l then some (getF 8 l a) else none

set_option maxHeartbeats 400000 in
theorem put64_inner (P0_ : Nat → Prop) (u : Value) (l0 : List Int) (a1 : Int) (a2 : Int) (r1 : Bool) (r2 : List Int) (w0 w : World) (hB : Below w0.heap.size w0 w) (ho0 : Kd.R (Kd.int .u8) 5 w w0.heap.size P0_ u l0) (h : bits_Put64.f l0 a1 a2 = some (r1, r2)) :
    Calls Try.prog 39 #[u, .int .i64 a1, .int .u64 a2] w fun e w' => e = .returned (.bool r1) ∧ Kd.R (Kd.int .u8) 5 w' w0.heap.size P0_ u r2 ∧ Below w0.heap.size w0 w' ∧ Kept w w' P0_ := by
  unfold bits_Put64.f at h
  by_cases hx : 0 ≤ a2
  · rw [if_pos hx] at h
    unfold putF at h
    by_cases hin : 0 ≤ a1 ∧ a1 + (8 : Nat) ≤ (l0.length : Int)
    · rw [if_pos hin] at h
      simp only [Option.some.injEq, Prod.mk.injEq] at h
      obtain ⟨rfl, rfl⟩ := h
      obtain ⟨at_, rfl⟩ := Int.eq_ofNat_of_zero_le hin.1
      have hle : at_ + 8 ≤ l0.length := by have := hin.2; omega
      obtain ⟨g, cap, rfl, hlc, hmx, hb, hok, hcl⟩ := own_place ho0 (by omega)
      refine (put64_yes g 0 l0.length cap at_ a2 hx w hmx hlc hle (fun j hj => by rw [Nat.zero_add]; exact hcl _ (by omega))).mono ?_
      rintro e w' ⟨rfl, m, rfl⟩
      rw [Nat.zero_add, Int.toNat_natCast, cells64_eq]
      exact ⟨rfl, R_cells (be64 a2) at_ ho0, pw_below_drewN (below_cells hb _ _ hB) m, (kept_cells hok _ _ (Kept.refl _ _)).drewN m⟩
    · rw [if_neg hin] at h
      simp only [Option.some.injEq, Prod.mk.injEq] at h
      obtain ⟨rfl, rfl⟩ := h
      obtain ⟨A, c, rfl, hlc, hC⟩ := Kd.R_reads ho0
      have hmx : l0.length ≤ 9223372036854775807 := by
        by_cases hz : 0 < l0.length
        · obtain ⟨_, _, _, _, hm, _⟩ := own_place ho0 hz
          exact hm
        · omega
      refine (put64_no A l0.length c a1 a2 w hmx (by omega)).mono ?_
      rintro e w' ⟨rfl, ⟨m, rfl⟩⟩
      exact ⟨rfl, ho0, pw_below_drewN hB m, (Kept.refl _ _).drewN m⟩
  · rw [if_neg hx] at h
    simp at h

set_option maxHeartbeats 400000 in
theorem bits_Put64.calls (P0_ : Nat → Prop) (u9000_ : Value) (l0 : List Int) (a1 : Int) (a2 : Int) (r1 : Bool) (r2 : List Int) (w0 w : World) (hB : Below w0.heap.size w0 w) (ho0 : Kd.R (Kd.int .u8) 5 w w0.heap.size P0_ u9000_ l0) (h : bits_Put64.f l0 a1 a2 = some (r1, r2)) :
    Calls Try.prog 22 #[u9000_, .int .i64 a1, .int .u64 a2] w fun e w' => e = .returned (.bool r1) ∧ Kd.R (Kd.int .u8) 5 w' w0.heap.size (fun k_ => (P0_ k_ ∨ w.heap.size ≤ k_)) u9000_ r2 ∧ Below w0.heap.size w0 w' ∧ Kept w w' (fun k_ => P0_ k_) := by
  have HO := Lib.hid ho0
  have HH := Lib.hid h
  have HB := Lib.hid hB
  clear ho0 h hB
  go_enter Try.func22, Try.ntmps22
  go_wp2_with (go_at_call 39; refine (put64_inner P0_ u9000_ l0 a1 a2 r1 r2 w0 _ HB.out HO.out HH.out).mono ?_; rintro e w' ⟨rfl, h1, h2, h3⟩; have H1 := Lib.hid h1; have H2 := Lib.hid h2; have H3 := Lib.hid h3; clear h1 h2 h3)
  go_ret
  exact ⟨rfl, Kd.R_mono H1.out (fun k hk => .inl hk), H2.out, H3.out⟩

set_option maxHeartbeats 400000 in
theorem get64_inner (A0 : Option Addr) (c0 : Nat) (l0 : List Int) (a1 : Int) (r1 : Int) (r2 : Bool) (w : World) (hr0 : Kd.C (Kd.int .u8) w A0 l0.length l0) (hc0 : l0.length ≤ c0) (h : bits_Get64.f l0 a1 = some (r1, r2)) :
    Calls Try.prog 47 #[.slice A0 l0.length c0, .int .i64 a1] w fun e w' => e = .returned (.tuple #[.int .u64 r1, .bool r2]) ∧ Drawn0 w w' := by
  unfold bits_Get64.f at h
  by_cases hx : IsBytes l0
  · rw [if_pos hx] at h
    have hmx : l0.length ≤ 9223372036854775807 := (Kd.reads_of_C (enc := Value.int .u8) (d := (0 : Int)) (h1 := fun _ => rfl) hr0).2.1
    unfold getF at h
    by_cases hin : 0 ≤ a1 ∧ a1 + (8 : Nat) ≤ (l0.length : Int)
    · rw [if_pos hin] at h
      simp only [Option.some.injEq, Prod.mk.injEq] at h
      obtain ⟨rfl, rfl⟩ := h
      obtain ⟨at_, rfl⟩ := Int.eq_ofNat_of_zero_le hin.1
      have hle : at_ + 8 ≤ l0.length := by have := hin.2; omega
      obtain ⟨ad, rfl, hc⟩ := Kd.at_int hr0 (at_ : Int) (by omega) (by omega)
      obtain ⟨b, off, spot⟩ := ad
      have hspot : spot = none := by
        obtain ⟨ad, e, hc2⟩ := Kd.at_int hr0 (0 : Int) (by omega) (by omega)
        cases e
        simpa [Addr.add] using World.cell?_spot hc2
      subst hspot
      rw [Int.toNat_natCast]
      refine get64_yes b off l0.length c0 at_ _ w hmx hc0 hle (by rw [List.length_take, List.length_drop]; omega) (fun x hm => hx x (List.mem_of_mem_drop (List.mem_of_mem_take hm))) (fun j hj => ?_)
      obtain ⟨ad, e, hc⟩ := Kd.at_int hr0 ((at_ + j : Nat) : Int) (by omega) (by omega)
      cases e
      rw [Int.toNat_natCast] at hc
      have ha : (⟨b, off, none⟩ : Addr).add (at_ + j) = ⟨b, off + at_ + j, none⟩ := by unfold Addr.add; split <;> simp_all <;> omega
      rw [ha] at hc
      rw [hc]
      simp only [rd, Int.toNat_natCast, List.getD_eq_getElem?_getD, List.getElem?_take, List.getElem?_drop]
      rw [if_pos hj]
    · rw [if_neg hin] at h
      simp only [Option.some.injEq, Prod.mk.injEq] at h
      obtain ⟨rfl, rfl⟩ := h
      exact get64_no A0 l0.length c0 a1 w hmx (by omega)
  · rw [if_neg hx] at h
    simp at h

set_option maxHeartbeats 400000 in
theorem bits_Get64.calls (A0 : Option Addr) (c0 : Nat) (l0 : List Int) (a1 : Int) (r1 : Int) (r2 : Bool) (w : World) (hr0 : Kd.C (Kd.int .u8) w A0 l0.length l0) (hc0 : l0.length ≤ c0) (h : bits_Get64.f l0 a1 = some (r1, r2)) :
    Calls Try.prog 34 #[.slice A0 l0.length c0, .int .i64 a1] w fun e w' => e = .returned (.tuple #[.int .u64 r1, .bool r2]) ∧ Drawn0 w w' := by
  have HR := Lib.hid hr0
  have HH := Lib.hid h
  have HC := Lib.hid hc0
  clear hr0 h hc0
  go_enter Try.func34, Try.ntmps34
  go_wp2_with (go_at_call 47; refine (get64_inner A0 c0 l0 a1 r1 r2 _ HR.out HC.out HH.out).mono ?_; rintro e w' ⟨rfl, ⟨m, rfl⟩⟩)
  go_ret2
  exact ⟨rfl, ⟨m, rfl⟩⟩

end Go.Proofs.Ytbhnhbpamndldaa.Bits

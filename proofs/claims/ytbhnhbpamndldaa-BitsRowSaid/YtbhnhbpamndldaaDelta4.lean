/- delta.values and its iterator: the contract of a range over it. -/
import Derived.Test.YtbhnhbpamndldaaDelta3
import Derived.Test.YtbhnhbpamndldaaRange
import Derived.RangeFuncNested
import Derived.RangeFuncBound
import Derived.RangeFuncCalls
import Derived.RangeFuncLeaves
import Derived.RangeFuncFrom
import Derived.Shelf.Abstract
import Derived.OwnWalkIn
import Derived.TacticsInMore
import Derived.LoopNIn
import Derived.LoopIn
namespace Go.Proofs.Ytbhnhbpamndldaa.Delta
open Go.RowKit Go.Shelf Go.Proofs.YtbhnhbpamndldaaW.PrintWords Go.Proofs.YtbhnhbpamndldaaW.PrintLast Go.Proofs.YtbhnhbpamndldaaW.PrintMore
open Go.Proofs.Ytbhnhbpamndldaa.Bits
set_option linter.unusedVariables false
set_option linter.unusedSimpArgs false
attribute [local go_sem] Oper.semAt_some

set_option maxHeartbeats 400000 in
theorem values_at (a : ByteArray) (A : Option Addr) (n c : Nat) (w : World) :
    Calls Try.prog 45 #[.string a, .slice A n c] w fun e w' => e = .returned (.func (.func 52) #[] #[.pointer (some ⟨w.heap.size + 1, 0, none⟩), .pointer (some ⟨w.heap.size, 0, none⟩)]) ∧
      w' = (w.alloc (.cells #[.string a] 9)).alloc (.cells #[.slice A n c] 39) := by
  go_enter Try.func45, Try.ntmps45
  go_wp2
  go_ret
  exact ⟨rfl, rfl⟩

set_option maxHeartbeats 2000000 in
set_option maxRecDepth 100000 in
theorem iter_in (n lp b3 b4 : Nat) (A : Option Addr) (c : Nat) (l1 : List ByteArray) (hn : 1 ≤ n) (I : Nat → ByteArray → World → Prop) (Ix : Int → World → Prop)
    (hI : ∀ k cur W, I k cur W → W.cell? ⟨b3, 0, none⟩ = some (.string cur) ∧ W.frozen? ⟨b3, 0, none⟩ = false ∧ W.cell? ⟨b4, 0, none⟩ = some (.slice A l1.length c) ∧ Kd.C Kd.string W A l1.length l1)
    (hAp : ∀ k cur W W', I k cur W → Below W.heap.size W W' → I k cur W') (hsz : ∀ d ∈ l1, d.size ≤ 4611686018427387904)
    (hY : ∀ k cur d W, I k cur W → l1[k]? = some d → YieldAt Fence.wide (n - 1) Try.prog lp #[.string (applyF cur d).1, .int .i64 (applyF cur d).2] W fun e W' =>
      ((applyF cur d).2 = 0 ∧ e = .returned (.bool true) ∧ I (k + 1) (applyF cur d).1 (W'.setCell ⟨b3, 0, none⟩ (.string (applyF cur d).1)) ∧ (W'.cell? ⟨b3, 0, none⟩).isSome = true ∧ W'.frozen? ⟨b3, 0, none⟩ = false) ∨
      ((applyF cur d).2 ≠ 0 ∧ e = .returned (.bool false) ∧ Ix (applyF cur d).2 W'))
    (a : ByteArray) (W : World) (h0 : I 0 a W) :
    CallsIn Fence.wide n Try.prog 52 #[.func (.yield lp) #[] #[], .pointer (some ⟨b4, 0, none⟩), .pointer (some ⟨b3, 0, none⟩)] W fun e W' => (∃ v, e = .returned v) ∧ ((∃ cur, I l1.length cur W') ∨ ∃ x, x ≠ 0 ∧ Ix x W') := by
  refine callsIn_of_wp Try.func52 rfl trivial ?_ rfl
  simp only [Try.ntmps52, List.size_toArray, List.length_cons, List.length_nil, Nat.reduceAdd, Nat.reduceSub, Array.replicate_succ, Array.replicate_zero, List.push_toArray, List.append_toArray, List.nil_append, List.cons_append]
  obtain ⟨i1, i2, i3, i4⟩ := hI 0 a W h0
  have hlen : l1.length ≤ 9223372036854775807 := (Kd.reads_of_C (enc := Value.string) (d := ByteArray.empty) (h1 := fun _ => rfl) i4).2.1
  have H0 := Lib.hid h0
  have HI := Lib.hid hI
  have HA := Lib.hid hAp
  have HS := Lib.hid hsz
  have HY := Lib.hid hY
  clear h0 i1 i2 i4 hI hAp hsz hY
  gi_wp2
  gi_loopw [10] (fun i wr => ∃ (k : Nat) (cur : ByteArray), k ≤ l1.length ∧ i = .int .i64 k ∧ I k cur wr) (fun i _ => l1.length - (intOf i).toNat)
  case atStart => exact ⟨0, a, by omega, rfl, H0.out⟩
  case round =>
    obtain ⟨k, cur, hk, rfl, hJ⟩ := hrel
    obtain ⟨i1, i2, i3, i4⟩ := HI.out k cur wr hJ
    have HJ := Lib.hid hJ
    clear hJ H0
    by_cases hlt : k < l1.length
    · have hlti : decide ((k : Int) < (l1.length : Int)) = true := decide_eq_true (by omega)
      obtain ⟨ad, rfl, hc⟩ := Kd.at_string i4 (k : Int) (by omega) (by omega)
      rw [Int.toNat_natCast] at hc
      have hget : l1[k]? = some (rdOf ByteArray.empty l1 (k : Int)) := by
        unfold rdOf
        rw [Int.toNat_natCast, List.getD_eq_getElem?_getD, List.getElem?_eq_getElem hlt]
        rfl
      generalize rdOf ByteArray.empty l1 (k : Int) = d at *
      have hds : d.size ≤ 4611686018427387904 := HS.out d (List.mem_of_getElem? hget)
      have hap := fun W => callsIn_wide (n := n - 1) |>.2 (delta_Apply.calls cur d (applyF cur d).1 (applyF cur d).2 W (by unfold delta_Apply.f; rw [if_pos hds]))
      have HAP := Lib.hid hap
      have HG := Lib.hid hget
      clear hap hget hds i4
      have HYk := Lib.hid (fun W h => HY.out k cur d W h HG.out)
      generalize applyF cur d = r at HAP HYk
      obtain ⟨r1, r2⟩ := r
      gi_wp2_with fail
      refine ⟨trivial, ?_⟩
      refine (HAP.out _).mono ?_
      rintro e w1 ⟨rfl, hb⟩
      have hJ1 := HA.out k cur _ w1 HJ.out hb
      obtain ⟨fn, tmps, assign, body, hy, hR⟩ := HYk.out w1 hJ1
      have HR := Lib.hid hR
      clear hb hJ1 hR i1 i2 i3 hc
      gi_wp2
      refine HR.out.mono ?_
      rintro e W2 (⟨he0, rfl, hI2, hs2, hf2⟩ | ⟨hne, rfl, hx⟩)
      · obtain ⟨u, hu⟩ := Option.isSome_iff_exists.1 hs2
        have HI2 := Lib.hid hI2
        have t1 : (r2 != 0) = false := by rw [he0]; rfl
        clear hI2 hs2 he0 hy
        gi_wp2
        go_roundw
        case rel => exact ⟨k + 1, r1, by omega, by go_num, HI2.out⟩
        case measure => simp [intOf]; omega
      · have HX := Lib.hid hx
        have HN := Lib.hid hne
        clear hx hne hy
        gi_wp2
        refine bodyPost_ret (results_none rfl _ _ _) rfl ?_
        exact ⟨⟨_, rfl⟩, .inr ⟨_, HN.out, HX.out⟩⟩
    · have hlti : decide ((k : Int) < (l1.length : Int)) = false := decide_eq_false (by omega)
      obtain rfl : k = l1.length := by omega
      gi_wp2
      go_end0
      exact ⟨⟨_, rfl⟩, .inl ⟨cur, HJ.out⟩⟩
/-! ### delta.Back: what it answers -/
def backF : ByteArray → List ByteArray → ByteArray × Int
  | x, [] => (x, 0)
  | x, d :: l => if (applyF x d).2 = 0 then backF (applyF x d).1 l else (⟨#[]⟩, (applyF x d).2)
theorem backF_drop {x : ByteArray} {l : List ByteArray} {k : Nat} {d : ByteArray} (h : l[k]? = some d) : backF x (l.drop k) = if (applyF x d).2 = 0 then backF (applyF x d).1 (l.drop (k + 1)) else (⟨#[]⟩, (applyF x d).2) := by
  have hk := (List.getElem?_eq_some_iff.1 h).1
  rw [List.drop_eq_getElem_cons hk, (List.getElem?_eq_some_iff.1 h).2, backF]

/-- A block of one cell that holds v and may be written. -/
def Holds1 (W : World) (b : Nat) (v : Value) : Prop := W.cell? ⟨b, 0, none⟩ = some v ∧ W.frozen? ⟨b, 0, none⟩ = false
theorem Holds1.of {W W' : World} {b : Nat} {v : Value} (h : Holds1 W b v) (e : W'.heap[b]? = W.heap[b]?) : Holds1 W' b v :=
  ⟨(World.cell?_of_block (a := ⟨b, 0, none⟩) e).trans h.1, (World.frozen?_of_block (a := ⟨b, 0, none⟩) e).trans h.2⟩
theorem Holds1.set {W : World} {b : Nat} {u : Value} (h : Holds1 W b u) (v : Value) : Holds1 (W.setCell ⟨b, 0, none⟩ v) b v :=
  ⟨World.cell?_setCell_same' W _ v (by rw [h.1]; rfl), by rw [World.frozen?_setCell]; exact h.2⟩
theorem Holds1.new (W : World) (v : Value) (t : TypeId) (h1 : v.oneCell' = true) : Holds1 (W.alloc (.cells #[v] t)) W.heap.size v := by
  have hb := heap_alloc_new W (.cells #[v] t)
  exact ⟨by rw [cell_of_row _ _ 0 _ t (0, 0) hb]; rfl, frozen_of_row _ _ 0 _ t hb⟩

/-- The world of Back while the loop runs: its five variables, the loop's record, the block of the rounds' deferred calls. -/
structure InBack (w : World) (A : Option Addr) (n c : Nat) (rc : LoopState → Option Code → Loop) (cur it res : ByteArray) (er : Int) (st : LoopState) (pe : Option Code) (W : World) : Prop where
  h0 : Holds1 W w.heap.size (.string cur)
  h1 : Holds1 W (w.heap.size + 1) (.string res)
  h2 : Holds1 W (w.heap.size + 2) (.int .i64 er)
  h3 : Holds1 W (w.heap.size + 3) (.string it)
  h4 : Holds1 W (w.heap.size + 4) (.slice A n c)
  dp : W.heap[w.heap.size + 5]? = some (.deferred (some []))
  lp : W.heap[w.heap.size + 6]? = some (.loop (rc st pe))
  bel : Below w.heap.size w W
section
variable {w W W' : World} {A : Option Addr} {n c : Nat} {rc : LoopState → Option Code → Loop} {cur it res : ByteArray} {er : Int} {st : LoopState} {pe : Option Code}
theorem InBack.grow (h : InBack w A n c rc cur it res er st pe W) (hb : Below W.heap.size W W') : InBack w A n c rc cur it res er st pe W' := by
  have hs : w.heap.size + 6 < W.heap.size := (Array.getElem?_eq_some_iff.1 h.lp).1
  exact ⟨h.h0.of (hb.block _ (by omega)), h.h1.of (hb.block _ (by omega)), h.h2.of (hb.block _ (by omega)), h.h3.of (hb.block _ (by omega)), h.h4.of (hb.block _ (by omega)),
    (hb.block _ (by omega)).trans h.dp, (hb.block _ (by omega)).trans h.lp, h.bel.trans (hb.mono (by omega))⟩
theorem InBack.set0 (h : InBack w A n c rc cur it res er st pe W) (v : ByteArray) : InBack w A n c rc v it res er st pe (W.setCell ⟨w.heap.size, 0, none⟩ (.string v)) := by
  have o := fun k (hk : k ≠ w.heap.size) => Below.heap_setCell W ⟨w.heap.size, 0, none⟩ (.string v) k hk
  exact ⟨h.h0.set _, h.h1.of (o _ (by omega)), h.h2.of (o _ (by omega)), h.h3.of (o _ (by omega)), h.h4.of (o _ (by omega)), (o _ (by omega)).trans h.dp, (o _ (by omega)).trans h.lp, h.bel.setCell (p := ⟨w.heap.size, 0, none⟩) (by simp) _⟩
theorem InBack.set1 (h : InBack w A n c rc cur it res er st pe W) (v : ByteArray) : InBack w A n c rc cur it v er st pe (W.setCell ⟨w.heap.size + 1, 0, none⟩ (.string v)) := by
  have o := fun k (hk : k ≠ w.heap.size + 1) => Below.heap_setCell W ⟨w.heap.size + 1, 0, none⟩ (.string v) k hk
  exact ⟨h.h0.of (o _ (by omega)), h.h1.set _, h.h2.of (o _ (by omega)), h.h3.of (o _ (by omega)), h.h4.of (o _ (by omega)), (o _ (by omega)).trans h.dp, (o _ (by omega)).trans h.lp, h.bel.setCell (p := ⟨w.heap.size + 1, 0, none⟩) (by simp) _⟩
theorem InBack.set2 (h : InBack w A n c rc cur it res er st pe W) (v : Int) : InBack w A n c rc cur it res v st pe (W.setCell ⟨w.heap.size + 2, 0, none⟩ (.int .i64 v)) := by
  have o := fun k (hk : k ≠ w.heap.size + 2) => Below.heap_setCell W ⟨w.heap.size + 2, 0, none⟩ (.int .i64 v) k hk
  exact ⟨h.h0.of (o _ (by omega)), h.h1.of (o _ (by omega)), h.h2.set _, h.h3.of (o _ (by omega)), h.h4.of (o _ (by omega)), (o _ (by omega)).trans h.dp, (o _ (by omega)).trans h.lp, h.bel.setCell (p := ⟨w.heap.size + 2, 0, none⟩) (by simp) _⟩
theorem InBack.set3 (h : InBack w A n c rc cur it res er st pe W) (v : ByteArray) : InBack w A n c rc cur v res er st pe (W.setCell ⟨w.heap.size + 3, 0, none⟩ (.string v)) := by
  have o := fun k (hk : k ≠ w.heap.size + 3) => Below.heap_setCell W ⟨w.heap.size + 3, 0, none⟩ (.string v) k hk
  exact ⟨h.h0.of (o _ (by omega)), h.h1.of (o _ (by omega)), h.h2.of (o _ (by omega)), h.h3.set _, h.h4.of (o _ (by omega)), (o _ (by omega)).trans h.dp, (o _ (by omega)).trans h.lp, h.bel.setCell (p := ⟨w.heap.size + 3, 0, none⟩) (by simp) _⟩
theorem InBack.turn (h : InBack w A n c rc cur it res er st pe W) (st' : LoopState) (pe' : Option Code) : InBack w A n c rc cur it res er st' pe' (W.putObj (w.heap.size + 6) (.loop (rc st' pe'))) := by
  have hs : w.heap.size + 6 < W.heap.size := (Array.getElem?_eq_some_iff.1 h.lp).1
  have o : ∀ k, k ≠ w.heap.size + 6 → (W.putObj (w.heap.size + 6) (.loop (rc st' pe'))).heap[k]? = W.heap[k]? := fun k hk => World.putObj_heap_other (by omega)
  exact ⟨h.h0.of (o _ (by omega)), h.h1.of (o _ (by omega)), h.h2.of (o _ (by omega)), h.h3.of (o _ (by omega)), h.h4.of (o _ (by omega)), (o _ (by omega)).trans h.dp, World.putObj_heap_same hs,
    h.bel.grown (grownBy_putObj' W (w.heap.size + 6) _) h.bel.size (fun k e => by cases e; omega)⟩
end

/-- How a round ends. -/
def RoundEnd (w : World) (A : Option Addr) (n c : Nat) (rc : LoopState → Option Code → Loop) (a : ByteArray) (l1 : List ByteArray) (k : Nat) (r1 : ByteArray) (r2 : Int) (e : Ending) (W' : World) : Prop :=
  (r2 = 0 ∧ e = .returned (.bool true) ∧ (InBack w A n c rc r1 r1 ⟨#[]⟩ 0 .ready none (W'.setCell ⟨w.heap.size + 3, 0, none⟩ (.string r1)) ∧ backF a l1 = backF r1 (l1.drop (k + 1))) ∧
    (W'.cell? ⟨w.heap.size + 3, 0, none⟩).isSome = true ∧ W'.frozen? ⟨w.heap.size + 3, 0, none⟩ = false) ∨
  (r2 ≠ 0 ∧ e = .returned (.bool false) ∧ (∃ cur it, InBack w A n c rc cur it ⟨#[]⟩ r2 .done (some .ret) W') ∧ backF a l1 = (⟨#[]⟩, r2))

set_option maxHeartbeats 4000000 in
set_option maxRecDepth 100000 in
theorem back_in (a : ByteArray) (A : Option Addr) (c : Nat) (l1 : List ByteArray) (w : World) (hr : Kd.C Kd.string w A l1.length l1) (hsz : ∀ d ∈ l1, d.size ≤ 4611686018427387904) :
    CallsIn Fence.wide 9 Try.prog 31 #[.string a, .slice A l1.length c] w fun e w' => e = .returned (.tuple #[.string (backF a l1).1, .int .i64 (backF a l1).2]) ∧ Below w.heap.size w w' := by
  have HR := Lib.hid hr
  have HS := Lib.hid hsz
  clear hr hsz
  refine callsIn_of_wp_marks Try.func31 rfl trivial ?_ rfl
  simp only [Try.ntmps31, List.size_toArray, List.length_cons, List.length_nil, Nat.reduceAdd, Nat.reduceSub, Array.replicate_succ, Array.replicate_zero, List.push_toArray, List.append_toArray, List.nil_append, List.cons_append]
  gi_wp2_with fail
  refine ⟨trivial, ?_⟩
  refine (callsIn_wide.2 (values_at _ _ _ _ _)).mono ?_
  rintro e w' ⟨rfl, rfl⟩
  gi_wp2_with fail
  simp only [Nat.add_assoc, Nat.reduceAdd]
  refine gen_world ?_
  intro W0 hW0
  have hs0 : W0.heap.size = w.heap.size + 5 := by rw [hW0]; simp
  have hB0 : Below w.heap.size w W0 := by
    rw [hW0]
    exact (((((Below.refl _ w).alloc (Nat.le_refl _) _).alloc (by simp) _).alloc (by simp <;> omega) _).alloc (by simp <;> omega) _).alloc (by simp <;> omega) _
  have k0 : Holds1 W0 w.heap.size (.string a) := by
    rw [hW0]
    exact ((((Holds1.new w _ 9 rfl).of (Below.heap_alloc _ _ _ (by simp))).of (Below.heap_alloc _ _ _ (by simp <;> omega))).of (Below.heap_alloc _ _ _ (by simp <;> omega))).of (Below.heap_alloc _ _ _ (by simp <;> omega))
  have k1 : Holds1 W0 (w.heap.size + 1) (.string ⟨#[]⟩) := by
    rw [hW0]
    have h := Holds1.new (w.alloc (.cells #[.string a] 9)) (.string ⟨#[]⟩) 9 rfl
    rw [World.size_alloc] at h
    exact ((h.of (Below.heap_alloc _ _ _ (by simp))).of (Below.heap_alloc _ _ _ (by simp <;> omega))).of (Below.heap_alloc _ _ _ (by simp <;> omega))
  have k2 : Holds1 W0 (w.heap.size + 2) (.int .i64 0) := by
    rw [hW0]
    have h := Holds1.new ((w.alloc (.cells #[.string a] 9)).alloc (.cells #[.string ⟨#[]⟩] 9)) (.int .i64 0) 41 rfl
    rw [World.size_alloc, World.size_alloc] at h
    exact (h.of (Below.heap_alloc _ _ _ (by simp))).of (Below.heap_alloc _ _ _ (by simp <;> omega))
  have k3 : Holds1 W0 (w.heap.size + 3) (.string a) := by
    rw [hW0]
    have h := Holds1.new (((w.alloc (.cells #[.string a] 9)).alloc (.cells #[.string ⟨#[]⟩] 9)).alloc (.cells #[.int .i64 0] 41)) (.string a) 9 rfl
    rw [World.size_alloc, World.size_alloc, World.size_alloc] at h
    exact h.of (Below.heap_alloc _ _ _ (by simp))
  have k4 : Holds1 W0 (w.heap.size + 4) (.slice A l1.length c) := by
    rw [hW0]
    have h := Holds1.new ((((w.alloc (.cells #[.string a] 9)).alloc (.cells #[.string ⟨#[]⟩] 9)).alloc (.cells #[.int .i64 0] 41)).alloc (.cells #[.string a] 9)) (.slice A l1.length c) 39 rfl
    rw [World.size_alloc, World.size_alloc, World.size_alloc, World.size_alloc] at h
    exact h
  clear hW0
  refine range_over (gf := 52) (lb := #[.pointer (some ⟨w.heap.size + 4, 0, none⟩), .pointer (some ⟨w.heap.size + 3, 0, none⟩)]) (by omega) rfl (enters_of Try.func52 (by kernel_rfl) rfl) ?_
  intro fn rc hrc
  rw [hs0] at hrc ⊢
  obtain ⟨W1, hW1⟩ : ∃ W1, (W0.alloc (.deferred (some []))).alloc (.loop (rc .ready none)) = W1 := ⟨_, rfl⟩
  rw [hW1]
  have hI1 : InBack w A l1.length c rc a a ⟨#[]⟩ 0 .ready none W1 := by
    rw [← hW1]
    have o : ∀ k, k < W0.heap.size → ((W0.alloc (.deferred (some []))).alloc (.loop (rc .ready none))).heap[k]? = W0.heap[k]? := fun k hk => (Below.heap_alloc _ _ _ (by simp <;> omega)).trans (Below.heap_alloc _ _ _ hk)
    refine ⟨k0.of (o _ (by omega)), k1.of (o _ (by omega)), k2.of (o _ (by omega)), k3.of (o _ (by omega)), k4.of (o _ (by omega)), ?_, ?_, ((hB0.alloc (by omega) _).alloc (by simp <;> omega) _)⟩
    · rw [← hs0]
      exact (Below.heap_alloc _ _ _ (by simp)).trans (World.alloc_heap_new W0 _)
    · have := World.alloc_heap_new (W0.alloc (.deferred (some []))) (.loop (rc .ready none))
      rw [World.size_alloc, hs0] at this
      exact this
  clear hW1 k0 k1 k2 k3 k4 hB0 hs0
  refine (iter_in 8 (w.heap.size + 6) (w.heap.size + 3) (w.heap.size + 4) A c l1 (by omega)
    (fun k cur W => InBack w A l1.length c rc cur cur ⟨#[]⟩ 0 .ready none W ∧ backF a l1 = backF cur (l1.drop k))
    (fun x W => (∃ cur it, InBack w A l1.length c rc cur it ⟨#[]⟩ x .done (some .ret) W) ∧ backF a l1 = (⟨#[]⟩, x)) ?hI ?hAp HS.out ?hY a W1 ⟨hI1, by simp⟩).mono ?post
  case hI =>
    rintro k cur W ⟨hJ, _⟩
    exact ⟨hJ.h3.1, hJ.h3.2, hJ.h4.1, Kd.C_below HR.out hJ.bel⟩
  case hAp =>
    rintro k cur W W' ⟨hJ, hb⟩ hB
    exact ⟨hJ.grow hB, hb⟩
  case hY =>
    rintro k cur d W ⟨hJ, hb⟩ hd
    rw [backF_drop hd] at hb
    generalize applyF cur d = r at hb ⊢
    obtain ⟨r1, r2⟩ := r
    dsimp only at hb ⊢
    have hE := fun jump W => end_round (P := Try.prog) (lp := w.heap.size + 6) (W := W) hrc jump
    refine yield_mono (R := RoundEnd w A l1.length c rc a l1 k r1 r2) ?_ (fun e W' h => h)
    refine round_over hrc hJ.lp rfl ?_
    have HJ := Lib.hid hJ
    have HE := Lib.hid hE
    have HB := Lib.hid hb
    clear hJ hE hb hI1 hrc
    gi_wp2
    refine ⟨HJ.out.lp, ?_⟩
    have hJ2 := HJ.out.turn .busy none
    generalize W.putObj (w.heap.size + 6) (.loop (rc .busy none)) = Wb at hJ2 ⊢
    have c0 := hJ2.h0.1
    have f0 := hJ2.h0.2
    have c1 := hJ2.h1.1
    have f1 := hJ2.h1.2
    have c2 := hJ2.h2.1
    have f2 := hJ2.h2.2
    have HJ2 := Lib.hid hJ2
    clear hJ2
    by_cases he : r2 = 0
    · have t1 : (r2 != 0) = false := by rw [he]; rfl
      have HE0 := Lib.hid he
      clear he
      gi_wp2
      have h9 := (HJ2.out.set0 r1).turn .ready none
      exact ⟨_, _, HE.out none _ (HJ2.out.set0 r1).lp, .inl ⟨HE0.out, rfl, ⟨h9.set3 r1, by rw [HB.out, if_pos HE0.out]⟩, Option.isSome_iff_exists.2 ⟨_, h9.h3.1⟩, h9.h3.2⟩⟩
    · have t1 : (r2 != 0) = true := by simp [he]
      have HE0 := Lib.hid he
      clear he
      gi_wp2
      have h8 := (HJ2.out.set1 ⟨#[]⟩).set2 r2
      exact ⟨_, _, HE.out (some .ret) _ h8.lp, .inr ⟨HE0.out, rfl, ⟨_, _, h8.turn .done (some .ret)⟩, by rw [HB.out, if_neg HE0.out]⟩⟩
  case post =>
    rintro e W2 ⟨⟨v, rfl⟩, (⟨cur, hJ, hb⟩ | ⟨x, hx, ⟨cur, it, hJ⟩, hb⟩)⟩
    · refine ⟨none, _, end_loop hrc .ready none (by decide) hJ.lp, ?_⟩
      have hJ2 := hJ.turn .exhausted none
      generalize W2.putObj (w.heap.size + 6) (.loop (rc .exhausted none)) = W3 at hJ2 ⊢
      rw [List.drop_length, backF] at hb
      have c0 := hJ2.h0.1
      have f0 := hJ2.h0.2
      have c1 := hJ2.h1.1
      have f1 := hJ2.h1.2
      have c2 := hJ2.h2.1
      have f2 := hJ2.h2.2
      have HJ2 := Lib.hid hJ2
      have HB := Lib.hid hb
      clear hJ2 hb hJ hI1 hrc
      dsimp only
      gi_wp2
      have h9 := (HJ2.out.set1 cur).set2 0
      have o : ∀ k, k ≠ w.heap.size + 5 → (((W3.setCell ⟨w.heap.size + 1, 0, none⟩ (.string cur)).setCell ⟨w.heap.size + 2, 0, none⟩ (.int .i64 0)).putObj (w.heap.size + 5) (.deferred none)).heap[k]? = ((W3.setCell ⟨w.heap.size + 1, 0, none⟩ (.string cur)).setCell ⟨w.heap.size + 2, 0, none⟩ (.int .i64 0)).heap[k]? := fun k hk => World.putObj_heap_other hk
      have q1 := (h9.h1.of (o _ (by omega))).1
      have q2 := (h9.h2.of (o _ (by omega))).1
      refine ⟨by simp, .inl ⟨_, _, rfl, run_takeDeferred h9.dp, ?_⟩⟩
      refine ⟨.tuple #[.string cur, .int .i64 0], ?_, by rw [HB.out], h9.bel.grown (grownBy_putObj' _ (w.heap.size + 5) _) h9.bel.size (fun k e => by cases e; omega)⟩
      simp [results, Try.f31, go_sem, q1, q2]
    · refine ⟨some .ret, _, end_loop hrc .done (some .ret) (by decide) hJ.lp, ?_⟩
      have hJ2 := hJ.turn .exhausted (some .ret)
      generalize W2.putObj (w.heap.size + 6) (.loop (rc .exhausted (some .ret))) = W3 at hJ2 ⊢
      have c1 := hJ2.h1.1
      have f1 := hJ2.h1.2
      have c2 := hJ2.h2.1
      have f2 := hJ2.h2.2
      have HJ2 := Lib.hid hJ2
      have HB := Lib.hid hb
      clear hJ2 hb hJ hI1 hrc
      dsimp only
      gi_wp2
      have h9 := HJ2.out
      have o : ∀ k, k ≠ w.heap.size + 5 → (W3.putObj (w.heap.size + 5) (.deferred none)).heap[k]? = W3.heap[k]? := fun k hk => World.putObj_heap_other hk
      have q1 := (h9.h1.of (o _ (by omega))).1
      have q2 := (h9.h2.of (o _ (by omega))).1
      refine ⟨by simp, .inl ⟨_, _, rfl, run_takeDeferred h9.dp, ?_⟩⟩
      refine ⟨.tuple #[.string ⟨#[]⟩, .int .i64 x], ?_, by rw [HB.out], h9.bel.grown (grownBy_putObj' _ (w.heap.size + 5) _) h9.bel.size (fun k e => by cases e; omega)⟩
      simp [results, Try.f31, go_sem, q1, q2]
def delta_Back.f (a : ByteArray) (l : List ByteArray) : Option (ByteArray × Int) := if ∀ d ∈ l, d.size ≤ 4611686018427387904 then some (backF a l) else none
theorem delta_Back.calls (a0 : ByteArray) (A1 : Option Addr) (c1 : Nat) (l1 : List ByteArray) (r1 : ByteArray) (r2 : Int) (w : World) (hr1 : Kd.C Kd.string w A1 l1.length l1) (hc1 : l1.length ≤ c1) (h : delta_Back.f a0 l1 = some (r1, r2)) :
    Calls Try.prog 31 #[.string a0, .slice A1 l1.length c1] w fun e w' => e = .returned (.tuple #[.string r1, .int .i64 r2]) ∧ Below w.heap.size w w' := by
  unfold delta_Back.f at h
  by_cases hs : ∀ d ∈ l1, d.size ≤ 4611686018427387904
  · rw [if_pos hs] at h
    have e := Option.some.inj h
    have := callsIn_wide.1 (back_in a0 A1 c1 l1 w hr1 hs)
    rwa [e] at this
  · rw [if_neg hs] at h
    simp at h
end Go.Proofs.Ytbhnhbpamndldaa.Delta

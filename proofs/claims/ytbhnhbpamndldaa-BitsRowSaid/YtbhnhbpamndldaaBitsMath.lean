/- Plain facts on the bytes of numbers: lists with bytes put in and got out; handles. No program here. -/
import Derived.Test.YtbhnhbpamndldaaBits
import Derived.Laws.Bits64
import Derived.Laws.BitsAllLaws
namespace Go.Proofs.Ytbhnhbpamndldaa.Bits
open Go.RowKit
set_option linter.unusedVariables false
set_option linter.unusedSimpArgs false

theorem lit_u8 {x : Int} (h : (Lit.int .u8 x).wf = true) : 0 ≤ x ∧ x < 256 := by
  simp [Lit.wf, IntKind.min, IntKind.max, IntKind.signed, IntKind.bits] at h
  omega
theorem lit_u16 {x : Int} (h : (Lit.int .u16 x).wf = true) : 0 ≤ x ∧ x < 65536 := by
  simp [Lit.wf, IntKind.min, IntKind.max, IntKind.signed, IntKind.bits] at h
  omega
theorem lit_u32 {x : Int} (h : (Lit.int .u32 x).wf = true) : 0 ≤ x ∧ x < 4294967296 := by
  simp [Lit.wf, IntKind.min, IntKind.max, IntKind.signed, IntKind.bits] at h
  omega
theorem lit_u64 {x : Int} (h : (Lit.int .u64 x).wf = true) : 0 ≤ x ∧ x < 18446744073709551616 := by
  simp [Lit.wf, IntKind.min, IntKind.max, IntKind.signed, IntKind.bits] at h
  omega
theorem lit_i64 {x : Int} (h : (Lit.int .i64 x).wf = true) : -9223372036854775808 ≤ x ∧ x < 9223372036854775808 := by
  simp [Lit.wf, IntKind.min, IntKind.max, IntKind.signed, IntKind.bits] at h
  omega
theorem isBytes_of {l : List Int} (h : ∀ x ∈ l, (Lit.int .u8 x).wf = true) : IsBytes l := fun b hb => lit_u8 (h b hb)

theorem wrap64_id (x : Int) (h0 : -9223372036854775808 ≤ x) (h1 : x < 9223372036854775808) : wrap64 x = x := by
  unfold wrap64
  omega

theorem handle_or (p o g : Int) (hp : 0 ≤ p ∧ p < 65536) (ho : 0 ≤ o ∧ o < 65536) (hg : 0 ≤ g ∧ g < 4294967296) :
    Go.bits .or .u64 (Go.bits .or .u64 (IntKind.u64.wrap ((IntKind.u64.wrap p) * 281474976710656)) (IntKind.u64.wrap ((IntKind.u64.wrap o) * 4294967296))) (IntKind.u64.wrap g) = p * 281474976710656 + o * 4294967296 + g := by
  have e1 : IntKind.u64.wrap ((IntKind.u64.wrap p) * 281474976710656) = p * 281474976710656 := by rw [IntKind.wrap_u64, IntKind.wrap_u64]; omega
  have e2 : IntKind.u64.wrap ((IntKind.u64.wrap o) * 4294967296) = o * 4294967296 := by rw [IntKind.wrap_u64, IntKind.wrap_u64]; omega
  have e3 : IntKind.u64.wrap g = g := by rw [IntKind.wrap_u64]; omega
  rw [e1, e2, e3]
  rw [bits_join .u64 64 (by decide) (fun n h0 h1 => by rw [IntKind.wrap_u64]; omega) 48 (p * 281474976710656) (o * 4294967296) (by omega) (by omega) (by omega) (by omega) (by omega) (by omega)]
  rw [bits_join .u64 64 (by decide) (fun n h0 h1 => by rw [IntKind.wrap_u64]; omega) 32 (p * 281474976710656 + o * 4294967296) g (by omega) (by omega) (by omega) (by omega) (by omega) (by omega)]

/-! ### lists -/
theorem putL_eq : ∀ (bs l : List Int) (a : Nat), a + bs.length ≤ l.length → putL l a bs = l.take a ++ bs ++ l.drop (a + bs.length)
  | [], l, a, h => by simp [putL]
  | b :: bs, l, a, h => by
    simp only [List.length_cons] at h
    rw [putL, putL_eq bs (l.set a b) (a + 1) (by rw [List.length_set]; omega)]
    have h1 : (l.set a b).take (a + 1) = l.take a ++ [b] := by
      rw [List.take_set, List.take_succ_eq_append_getElem (by omega), List.set_append, if_neg (by simp; omega), List.length_take, Nat.min_eq_left (by omega), Nat.sub_self]
      rfl
    rw [h1, List.drop_set_of_lt (by omega)]
    simp only [List.length_cons, List.append_assoc, List.cons_append, List.nil_append]
    rw [show a + 1 + bs.length = a + (bs.length + 1) by omega]
theorem get_put (bs l : List Int) (a : Nat) (h : a + bs.length ≤ l.length) : ((putL l a bs).drop a).take bs.length = bs := by
  rw [putL_eq bs l a h, List.append_assoc, List.drop_left' (by rw [List.length_take]; omega), List.take_left' rfl]
theorem put_at (bs l : List Int) (a i : Nat) (h : a + bs.length ≤ l.length) : (putL l a bs)[i]? = if a ≤ i ∧ i < a + bs.length then bs[i - a]? else l[i]? := by
  rw [putL_eq bs l a h]
  rcases Nat.lt_or_ge i a with h1 | h1
  · rw [if_neg (by omega), List.append_assoc, List.getElem?_append_left (by rw [List.length_take]; omega), List.getElem?_take, if_pos h1]
  · rcases Nat.lt_or_ge i (a + bs.length) with h2 | h2
    · rw [if_pos ⟨h1, h2⟩, List.append_assoc, List.getElem?_append_right (by rw [List.length_take]; omega), List.length_take, Nat.min_eq_left (by omega), List.getElem?_append_left (by omega)]
    · rw [if_neg (by omega), List.getElem?_append_right (by simp; omega), List.getElem?_drop]
      congr 1
      simp
      omega
theorem put_apart (bs cs l : List Int) (a b : Nat) (ha : a + bs.length ≤ l.length) (hb : b + cs.length ≤ l.length) (h : a + bs.length ≤ b ∨ b + cs.length ≤ a) : putL (putL l a bs) b cs = putL (putL l b cs) a bs := by
  apply List.ext_getElem?
  intro i
  rw [put_at cs _ b i (by rw [putL_length]; exact hb), put_at bs _ a i ha, put_at bs _ a i (by rw [putL_length]; exact ha), put_at cs _ b i hb]
  split
  · rw [if_neg (by omega)]
  · rfl
theorem putL_bytes (bs l : List Int) (a : Nat) (h : a + bs.length ≤ l.length) (hb : IsBytes bs) (hl : IsBytes l) : IsBytes (putL l a bs) := by
  rw [putL_eq bs l a h]
  intro x hx
  simp only [List.mem_append] at hx
  rcases hx with (hx | hx) | hx
  · exact hl x (List.mem_of_mem_take hx)
  · exact hb x hx
  · exact hl x (List.mem_of_mem_drop hx)

theorem be16_bytes (x : Int) : IsBytes (be16 x) := by
  intro b hb
  simp only [be16, List.mem_cons, List.not_mem_nil, or_false] at hb
  omega
theorem be32_bytes (x : Int) : IsBytes (be32 x) := by
  intro b hb
  simp only [be32, List.mem_cons, List.not_mem_nil, or_false] at hb
  omega
theorem be64_bytes (x : Int) : IsBytes (be64 x) := by
  intro b hb
  simp only [be64, List.mem_cons, List.not_mem_nil, or_false] at hb
  omega
theorem beNum_be16 (x : Int) (h0 : 0 ≤ x) : beNum (be16 x) = x % 65536 := by
  simp only [beNum, be16, List.foldl]
  omega
theorem beNum_be32 (x : Int) (h0 : 0 ≤ x) : beNum (be32 x) = x % 4294967296 := by
  simp only [beNum, be32, List.foldl]
  omega
theorem beNum_be64 (x : Int) (h0 : 0 ≤ x) : beNum (be64 x) = x % 18446744073709551616 := by
  simp only [beNum, be64, List.foldl]
  omega

theorem putF_len (W : Nat) (l bs : List Int) (a : Int) : (putF W l a bs).2.length = l.length := by
  unfold putF
  split
  · exact putL_length _ _ _
  · rfl
theorem putF_bytes (W : Nat) (l bs : List Int) (a : Int) (hW : bs.length = W) (hb : IsBytes bs) (hl : IsBytes l) : IsBytes (putF W l a bs).2 := by
  unfold putF
  split
  · exact putL_bytes bs l a.toNat (by omega) hb hl
  · exact hl
theorem getF_putF (W : Nat) (l bs : List Int) (a : Int) (hW : bs.length = W) : getF W (putF W l a bs).2 a = if 0 ≤ a ∧ a + W ≤ l.length then (beNum bs, true) else (0, false) := by
  unfold getF
  rw [putF_len]
  unfold putF
  by_cases h : 0 ≤ a ∧ a + (W : Int) ≤ (l.length : Int)
  · rw [if_pos h, if_pos h, if_pos h]
    have := get_put bs l a.toNat (by omega)
    rw [hW] at this
    rw [this]
  · rw [if_neg h, if_neg h]
end Go.Proofs.Ytbhnhbpamndldaa.Bits

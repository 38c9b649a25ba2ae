/- A row's slice of strings: opened, as the contracts over it ask. -/
import Derived.Test.YtbhnhbpamndldaaRows
import Derived.Test.YtbhnhbpamndldaaWWords
import Derived.SliceStrings
import Derived.SizedLaws
namespace Go.Proofs.Ytbhnhbpamndldaa.Strs
open Go.ChangeShapes Go.WideShapes Go.RowKit Go.Proofs.YtbhnhbpamndldaaW.PrintWords
theorem mem_weights {H : Type} (P : Program) (e : TypeId) : ∀ (l : List ByteArray) (s : ByteArray), s ∈ l → s.data.toList.length ∈ DataW.weightsAll P e (strs (H := H) l)
  | [], s, h => by simp at h
  | x :: l, s, h => by
    have e1 : strs (H := H) (x :: l) = .lit (.string x.data.toList) :: strs l := rfl
    rw [e1, DataW.weightsAll, List.mem_append]
    rcases List.mem_cons.1 h with rfl | h
    · left
      simp [DataW.weights]
    · exact Or.inr (mem_weights P e l s h)
/-- A row's slice of strings: its list, as the contracts read it; no string weighs more than the row allows. -/
theorem row_strs {H : Type} {enc : TypeId × Value → H} {P : Program} {W : World} {base : Nat} {spare : Nat → Bool} {held : Bool} {t e : TypeId} {a : Option Addr} {len cap : Nat} {d : DataW H} {ps : List MemPlace} {ts : List TypeId} {ds : List (DataW H)} {j : Nat}
    (hsz : (DataW.weightsEach P ts ds).all (· ≤ reachBytes) = true) (ht : ts[j]? = some t) (hd : ds[j]? = some d) (hu : P.underlying t = some (.slice e)) (he : P.underlying e = some .string) (hc : P.cellsOf e = 1)
    (h : DataW.Trod enc P W base spare held t (.slice a len cap) d ps) : ∃ l : List ByteArray, len = l.length ∧ Kd.C Kd.string W a l.length l ∧ l.length ≤ cap ∧ ∀ s ∈ l, s.size ≤ 140737488351232 := by
  obtain ⟨fuel, hf⟩ := h
  rcases open_strings hu he hc hf with ⟨hcs, _⟩ | ⟨x, l, c, ss, hcs, _, hl, hm, hz, hx, hcell, _⟩
  · simp [Value.cells] at hcs
    obtain ⟨rfl, rfl, rfl⟩ := hcs
    exact ⟨[], rfl, Kd.C_of_reads (enc := Value.string) (d := ByteArray.empty) (h1 := fun _ => rfl) ⟨rfl, by simp, fun h => by simp at h⟩, by simp, by simp⟩
  · simp [Value.cells] at hcs
    obtain ⟨rfl, rfl, rfl⟩ := hcs
    obtain ⟨hx, _⟩ := Prod.mk.inj hx
    subst hx
    have hl2 : len ≤ ss.length := by
      rw [hz]
      split
      · exact hl
      · exact Nat.le_refl _
    have e1 : len = (ss.take len).length := by rw [List.length_take, Nat.min_eq_left hl2]
    refine ⟨ss.take len, e1, Kd.C_of_reads (enc := Value.string) (d := ByteArray.empty) (h1 := fun _ => rfl) ⟨rfl, ?_, fun _ => ⟨x, rfl, fun i hi => ?_⟩⟩, by omega, fun s hs => ?_⟩
    · have : (maxLen : Nat) ≤ 9223372036854775807 := by decide
      omega
    · have h1 := hcell i (by omega)
      rw [h1]
      have hi' : i < len := by omega
      simp [List.getD_eq_getElem?_getD, hi']
    · have z := List.all_eq_true.1 hsz _ (DataW.weights_mem_each ht hd s.data.toList.length (by
        simp only [DataW.weights, hu]
        exact List.mem_cons_of_mem _ (List.mem_append_left _ (mem_weights P e _ _ hs))))
      have z2 := of_decide_eq_true z
      rw [Array.length_toList] at z2
      exact z2
end Go.Proofs.Ytbhnhbpamndldaa.Strs

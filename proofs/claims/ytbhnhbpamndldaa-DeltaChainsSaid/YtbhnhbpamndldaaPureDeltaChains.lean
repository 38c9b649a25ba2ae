/- delta.Back of the deltas that delta.Make tells is the last value. Of every input, no condition: the pure statement behind the walk. -/
import Derived.Test.YtbhnhbpamndldaaPDeltaChainsx2
import Derived.Test.YtbhnhbpamndldaaDeltaMore
namespace Go.Proofs.Ytbhnhbpamndldaa.Pure
open Go.RowKit Go.Proofs.Ytbhnhbpamndldaa.Delta Go.Proofs.Ytbhnhbpamndldaa.PDeltaChains Go.Proofs.YtbhnhbpamndldaaW.PrintWords Go.Proofs.YtbhnhbpamndldaaW.PrintLast
set_option linter.unusedVariables false
set_option linter.unusedSimpArgs false
namespace Chains
theorem awake_ok : ferrymanlaw07_awake.f = some true := by decide +kernel
theorem wrap_succ (i : Nat) (h : i ≤ 1000) : wrap64 ((i : Int) + 1) = ((i + 1 : Nat) : Int) := by unfold wrap64; omega
theorem wrap_pred (i : Nat) (h : i ≤ 1000) : wrap64 (((i + 1 : Nat) : Int) - 1) = (i : Int) := by unfold wrap64; omega
theorem large_ok (l : List ByteArray) (hl : l.length ≤ 40) : ∀ (m i k : Nat) (x3 : Int), i ≤ l.length → l.length - i ≤ m → m < k → ∃ t, ferrymanlaw07_large.l0 k l x3 (i : Int) = some t := by
  intro m
  induction m with
  | zero =>
    intro i k x3 hi hm hk
    obtain ⟨k, rfl⟩ : ∃ k', k = k' + 1 := ⟨k - 1, by omega⟩
    simp only [ferrymanlaw07_large.l0]
    rw [if_neg (by omega)]
    exact ⟨_, rfl⟩
  | succ m ih =>
    intro i k x3 hi hm hk
    obtain ⟨k, rfl⟩ : ∃ k', k = k' + 1 := ⟨k - 1, by omega⟩
    simp only [ferrymanlaw07_large.l0]
    by_cases h : i < l.length
    · rw [if_pos (by omega)]
      by_cases h2 : x3 < 20000
      · rw [if_pos h2, if_pos (by omega), wrap_succ i (by omega)]
        exact ih (i + 1) k _ (by omega) (by omega) (by omega)
      · rw [if_neg h2]
        exact ⟨_, rfl⟩
    · rw [if_neg (by omega)]
      exact ⟨_, rfl⟩
theorem at_last (e : ByteArray) : ∀ (a : ByteArray) (l : List ByteArray) (j : Nat), j ≤ l.length → (a :: l).getD j e = (l.take j).getLastD a
  | a, l, 0, _ => by simp
  | a, [], j + 1, h => by simp at h
  | a, b :: l, j + 1, h => by
    have := at_last e b l j (by simpa using h)
    rw [List.getD_cons_succ, this, List.take_succ_cons, List.getLastD_cons]
theorem l1_ok (a : ByteArray) (l : List ByteArray) (hl : l.length ≤ 40) (ha : a.size ≤ 256) (h : ∀ b ∈ l, b.size ≤ 256) : ∀ (m j k : Nat), j ≤ l.length → l.length - j ≤ m → m < k →
    ferrymanlaw07_DeltaChains.l1 k (a :: l) (deltas a (l.take j)) ((j + 1 : Nat) : Int) = some true := by
  intro m
  induction m with
  | zero =>
    intro j k hj hm hk
    obtain ⟨k, rfl⟩ : ∃ k', k = k' + 1 := ⟨k - 1, by omega⟩
    simp only [ferrymanlaw07_DeltaChains.l1]
    rw [if_neg (by rw [List.length_cons]; omega)]
  | succ m ih =>
    intro j k hj hm hk
    obtain ⟨k, rfl⟩ : ∃ k', k = k' + 1 := ⟨k - 1, by omega⟩
    simp only [ferrymanlaw07_DeltaChains.l1]
    by_cases hc : j < l.length
    · have hlen : (((a :: l).length : Nat) : Int) = l.length + 1 := by rw [List.length_cons]; omega
      have e1 : rdOf ByteArray.empty (a :: l) (j : Int) = (l.take j).getLastD a := by
        unfold rdOf
        rw [Int.toNat_natCast]
        exact at_last _ a l j (by omega)
      have e2 : rdOf ByteArray.empty (a :: l) ((j + 1 : Nat) : Int) = l[j] := by
        unfold rdOf
        rw [Int.toNat_natCast, List.getD_cons_succ, List.getD_eq_getElem?_getD, List.getElem?_eq_getElem hc]
        rfl
      have e3 : l.take (j + 1) = l.take j ++ [l[j]] := by rw [List.take_succ_eq_append_getElem hc]
      have s1 : ((l.take j).getLastD a).size ≤ 256 := by
        rw [List.getLastD_eq_getLast?]
        cases e : (l.take j).getLast? with
        | none => exact ha
        | some x => exact h x (List.mem_of_mem_take (List.mem_of_getLast? e))
      have s2 : (l[j]).size ≤ 256 := h _ (List.getElem_mem hc)
      have e4 : deltas a (l.take j) ++ [makeS ((l.take j).getLastD a) l[j]] = deltas a (l.take (j + 1)) := by rw [e3, deltas_snoc]
      have hs : ∀ b ∈ l.take (j + 1), b.size ≤ 256 := fun b hb => h b (List.mem_of_mem_take hb)
      have e5 : delta_Back.f a (deltas a (l.take (j + 1))) = some (l[j], 0) := by
        unfold delta_Back.f
        rw [if_pos (fun d hd => by have := deltas_size a _ hs d hd; omega), chain a _ ha hs, e3, List.getLastD_eq_getLast?, List.getLast?_concat]
        rfl
      have e0 : rdOf ByteArray.empty (a :: l) 0 = a := rfl
      have hn : (deltas a (l.take j)).length < 8796093022208 := by rw [deltas_length, List.length_take]; omega
      rw [if_pos (by omega), wrap_pred j (by omega), if_pos (by omega), if_pos (by omega), if_pos (by omega), e1, e2, make_is _ _ s1 s2, Option.bind_some]
      dsimp only
      rw [if_pos rfl, if_pos hn, Option.bind_some, e4, if_pos (by omega), e0, e5, Option.bind_some]
      dsimp only
      rw [if_pos rfl, if_pos rfl, wrap_succ (j + 1) (by omega)]
      exact ih (j + 1) k (by omega) (by omega) (by omega)
    · rw [if_neg (by rw [List.length_cons]; omega)]
theorem own_ok (l : List ByteArray) (hl : l.length ≤ 40) (h : ∀ b ∈ l, b.size ≤ 256) (k : Nat) (hk : 45 ≤ k) : ferrymanlaw07_DeltaChains.l1 k l [] 1 = some true := by
  cases l with
  | nil =>
    obtain ⟨k, rfl⟩ : ∃ k', k = k' + 1 := ⟨k - 1, by omega⟩
    simp only [ferrymanlaw07_DeltaChains.l1]
    rw [if_neg (by decide)]
  | cons a l => exact l1_ok a l (by rw [List.length_cons] at hl; omega) (h a (by simp)) (fun b hb => h b (by simp [hb])) l.length 0 k (by omega) (by omega) (by rw [List.length_cons] at hl; omega)
theorem l0_ok (l : List ByteArray) (hl : l.length ≤ 40) : ∀ (m i k : Nat) (x3 : List ByteArray), i ≤ l.length → l.length - i ≤ m → m + 45 < k → x3.length ≤ i → (∀ b ∈ x3, b.size ≤ 256) →
    ferrymanlaw07_DeltaChains.l0 k l x3 (i : Int) = some true := by
  intro m
  induction m with
  | zero =>
    intro i k x3 hi hm hk h3 hs
    obtain ⟨k, rfl⟩ : ∃ k', k = k' + 1 := ⟨k - 1, by omega⟩
    simp only [ferrymanlaw07_DeltaChains.l0]
    rw [if_neg (by omega)]
    exact own_ok x3 (by omega) hs k (by omega)
  | succ m ih =>
    intro i k x3 hi hm hk h3 hs
    obtain ⟨k, rfl⟩ : ∃ k', k = k' + 1 := ⟨k - 1, by omega⟩
    simp only [ferrymanlaw07_DeltaChains.l0]
    by_cases h : i < l.length
    · rw [if_pos (by omega), if_pos (by omega), wrap_succ i (by omega)]
      by_cases hx : ((rdOf ByteArray.empty l (i : Int)).size : Int) ≤ 256
      · rw [if_pos hx, if_pos (by omega)]
        refine ih (i + 1) k _ (by omega) (by omega) (by omega) (by rw [List.length_append]; simp; omega) (fun b hb => ?_)
        rcases List.mem_append.1 hb with hb | hb
        · exact hs b hb
        · rw [List.mem_singleton] at hb
          subst hb
          omega
      · rw [if_neg hx]
        exact ih (i + 1) k _ (by omega) (by omega) (by omega) (by omega) hs
    · rw [if_neg (by omega)]
      exact own_ok x3 (by omega) hs k (by omega)
end Chains
open Chains in
theorem DeltaChains (l : List ByteArray) : ∃ k, ferrymanlaw07_DeltaChains.f k l = some true := by
  refine ⟨100, ?_⟩
  have skip : ferrymanlaw07_DeltaChains.j0 100 l true = some true := by
    simp only [ferrymanlaw07_DeltaChains.j0]
    rw [if_pos trivial, awake_ok]
    rfl
  unfold ferrymanlaw07_DeltaChains.f
  by_cases c : (l.length : Int) > 40
  · rw [if_pos c]
    exact skip
  · rw [if_neg c]
    obtain ⟨t, ht⟩ := large_ok l (by omega) l.length 0 100 0 (by omega) (by omega) (by omega)
    have ht' : ferrymanlaw07_large.f 100 l = some t := ht
    rw [ht', Option.bind_some]
    by_cases ct : t = true
    · rw [if_pos ct]
      exact skip
    · rw [if_neg ct, awake_ok, Option.bind_some]
      simp only [ferrymanlaw07_DeltaChains.j0, Bool.not_true]
      rw [if_neg (by simp)]
      exact l0_ok l (by omega) l.length 0 99 [] (by omega) (by omega) (by omega) (by simp) (by simp)
end Go.Proofs.Ytbhnhbpamndldaa.Pure

/- The statement 'for .. := range g { .. }' over an iterator: one law for the statement, one for a round. -/
import Derived.RangeFuncFrom
namespace Go.Proofs.Ytbhnhbpamndldaa.Delta
open Go.RowKit
set_option linter.unusedVariables false
set_option linter.unusedSimpArgs false

theorem gen_world {F : Fence} {n : Nat} {P : Program} {c : Code} {Q : Exit → Act → World → Prop} {a : Act} {w : World} (h : ∀ W, W = w → c.wpIn F n P Q a W) : c.wpIn F n P Q a w := h w rfl

/-- The record of a range over a function. -/
def mkRec (fn : FuncId) (tmps : Array Value) (ps : Array Tmp) (assign body : Code) (D : Nat) (st : LoopState) (pe : Option Code) : Loop :=
  { state := st, pending := pe, fn := fn, tmps := tmps, params := ps, assign := assign, body := body, defers := D }
/-- The statement 'for .. := range g': the iterator is called, in the world that bears the record. -/
theorem range_over {n : Nat} {P : Program} {g : Operand} {ps : Array Tmp} {assign body : Code} {Q : Exit → Act → World → Prop} {a : Act} {W0 : World} {gf : Nat} {lb : Array Value}
    (hn : 1 ≤ n) (hg : a.eval g = .func (.func gf) #[] lb) (eg : ∀ args w, (callFunc gf args).run P w = .ok (.enter gf args) w)
    (h : ∀ fn rc, rc = mkRec fn a.tmps ps assign body W0.heap.size → CallsIn Fence.wide (n - 1) P gf (#[.func (.yield (W0.heap.size + 1)) #[] #[]] ++ lb) ((W0.alloc (.deferred (some []))).alloc (.loop (rc .ready none)))
      (rangePost Fence.wide n P (W0.heap.size + 1) Q { a with defers := [{ target := .collected W0.heap.size, args := #[] }] ++ a.defers })) :
    (Code.rangeFunc g ps assign body).wpIn Fence.wide n P Q a W0 := by
  refine wpIn_rangeFunc fun fn _ => ?_
  obtain ⟨W1, hW1⟩ : ∃ W1, (W0.alloc (.deferred (some []))).alloc (.loop (mkRec fn a.tmps ps assign body W0.heap.size .ready none)) = W1 := ⟨_, rfl⟩
  have hf := h fn _ rfl
  rw [hW1] at hf
  have he : (Instr.enterLoop fn a.tmps ps assign body Fence.wide.round).run P W0 = .ok (W0.heap.size + 1, [{ target := .collected W0.heap.size, args := #[] }]) W1 := by
    rw [← hW1]
    exact run_enterLoop_outer fn a.tmps ps assign body
  refine ⟨W0.heap.size + 1, [{ target := .collected W0.heap.size, args := #[] }], W1, { target := .fn (.func gf) lb, args := #[.func (.yield (W0.heap.size + 1)) #[] #[]] }, W1, gf,
    #[.func (.yield (W0.heap.size + 1)) #[] #[]] ++ lb, W1, he, ?_, ?_, ?_, ?_, ?_⟩
  rotate_left 4
  · exact hf
  rotate_left 1
  · exact fun _ _ => trivial
  rotate_left 1
  · exact fun _ => hn
  · simp only [resolve, hg]
    simp [go_sem]
  · simp [invoke, go_sem, eg]
theorem yield_mono {F : Fence} {n lp : Nat} {P : Program} {args : Array Value} {W : World} {R R' : Ending → World → Prop} (h : YieldAt F n P lp args W R) (hr : ∀ e w', R e w' → R' e w') : YieldAt F n P lp args W R' := by
  obtain ⟨fn, tmps, assign, body, hy, hR⟩ := h
  exact ⟨fn, tmps, assign, body, hy, hR.mono hr⟩
/-- The round ends: the record is ready, or done. -/
theorem end_round {lp D : Nat} {P : Program} {fn : FuncId} {tmps : Array Value} {ps : Array Tmp} {assign body : Code} {W : World} {rc : LoopState → Option Code → Loop}
    (hrc : rc = mkRec fn tmps ps assign body D) (jump : Option Code) (hl : W.heap[lp]? = some (.loop (rc .busy none))) :
    (Instr.endRound lp jump).run P W = .ok (.bool jump.isNone) (W.putObj lp (.loop (rc (if jump.isNone then .ready else .done) jump))) := by
  subst hrc
  exact run_endRound jump hl
theorem end_loop {lp D : Nat} {P : Program} {fn : FuncId} {tmps : Array Value} {ps : Array Tmp} {assign body : Code} {W : World} {rc : LoopState → Option Code → Loop}
    (hrc : rc = mkRec fn tmps ps assign body D) (st : LoopState) (pe : Option Code) (hst : st ≠ .busy) (hl : W.heap[lp]? = some (.loop (rc st pe))) :
    (Instr.endLoop lp).run P W = .ok pe (W.putObj lp (.loop (rc .exhausted pe))) := by
  subst hrc
  exact run_endLoop hl hst
theorem round_over {n lp D : Nat} {P : Program} {fn : FuncId} {tmps args : Array Value} {ps : Array Tmp} {assign body : Code} {R : Ending → World → Prop} {W : World} {rc : LoopState → Option Code → Loop}
    (hrc : rc = mkRec fn tmps ps assign body D) (hl : W.heap[lp]? = some (.loop (rc .ready none))) (hs : args.size = ps.size)
    (h : assign.wpIn (Fence.wide.inRound lp) n P (Exit.then (fun a₁ w₁ => w₁.heap[lp]? = some (.loop (rc .ready none)) ∧
        body.wpIn (Fence.wide.inRound lp) n P (roundPost P lp R) a₁ (w₁.putObj lp (.loop (rc .busy none)))) (fun _ _ _ => False))
      { tmps := (ps.zip args).foldl (fun t (p, v) => t.setIfInBounds p v) tmps, defers := [] } W) :
    YieldAt Fence.wide n P lp args W R := by
  subst hrc
  refine ⟨fn, _, assign, body, run_yield hl hs, roundIn_of_wpIn trivial (wpIn_mono h ?_)⟩
  intro e a1 w1 hp
  cases e with
  | normal =>
    obtain ⟨h1, h2⟩ := hp
    exact ⟨_, run_beginRound h1 rfl, h2⟩
  | _ => exact hp.elim
end Go.Proofs.Ytbhnhbpamndldaa.Delta

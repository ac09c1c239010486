/-
  A range over a function whose iterator keeps a state of its own: by the walk's lowest laws.
-/
import Derived.Test.YtpbamamplmbgjaaGreatDoorRows
import Derived.RangeFuncBox
import Derived.RangeFuncCalls
import Derived.RangeFuncLeaves
namespace Go.Proofs.YtpbamamplmbgjaaGreatDoor
set_option linter.unusedSimpArgs false
set_option linter.unusedVariables false
open Go.RowKit

theorem range_e1 {P : Program} {g : Operand} {a : Act} {W1 : World} {gf l : Nat} {lb : Array Value} (hg : a.eval g = .func (.func gf) #[] lb) : (resolve a.eval (rangeCall g l) 0).run P W1 = .ok { target := .fn (.func gf) lb, args := #[.func (.yield l) #[] #[]] } W1 := by
  simp only [resolve, hg]
  simp [go_sem]
theorem range_e2 {P : Program} {W1 : World} {gf l : Nat} {lb : Array Value} (eg : ∀ args w, (callFunc gf args).run P w = .ok (.enter gf args) w) : (invoke (.fn (.func gf) lb) #[.func (.yield l) #[] #[]]).run P W1 = .ok (.enter gf (#[.func (.yield l) #[] #[]] ++ lb)) W1 := by
  simp [invoke, go_sem, eg]
theorem range_e3 {F : Fence} {P : Program} {W1 : World} {gf l : Nat} {lb : Array Value} (hFg : F.fn gf) : ∀ f', Target.leads P W1 (.fn (.func gf) lb) #[.func (.yield l) #[] #[]] = some f' → F.fn f' := by
  intro f' hf'
  simp [Target.leads] at hf'
  subst hf'
  exact hFg

theorem range_step {F : Fence} {n : Nat} {P : Program} {g : Operand} {ps : Array Tmp} {assign body : Code} {Q : Exit → Act → World → Prop} {a : Act} {w W1 : World} (h1 : 1 ≤ n) {gf : Nat} {lb : Array Value}
    (hg : a.eval g = .func (.func gf) #[] lb) (hFg : F.fn gf) (eg : ∀ args w, (callFunc gf args).run P w = .ok (.enter gf args) w) {fn : FuncId} {l : Nat} {d : Deferred}
    (he : (Instr.enterLoop fn a.tmps ps assign body F.round).run P w = .ok (l, [d]) W1) (hc : CallsIn F (n - 1) P gf (#[.func (.yield l) #[] #[]] ++ lb) W1 (rangePost F n P l Q { a with defers := [d] ++ a.defers })) :
    ∃ (l : Nat) (mark : List Deferred) (w₁ : World) (d : Deferred) (w₁' : World) (f : FuncId) (args : Array Value) (w₂ : World),
      (Instr.enterLoop fn a.tmps ps assign body F.round).run P w = .ok (l, mark) w₁ ∧
      (resolve a.eval (rangeCall g l) 0).run P w₁ = .ok d w₁' ∧
      (∀ f', Target.leads P w₁' d.target d.args = some f' → F.fn f') ∧
      (invoke d.target d.args).run P w₁' = .ok (.enter f args) w₂ ∧
      (F.depth.isSome = true → 1 ≤ n) ∧
      CallsIn F (n - 1) P f args w₂ (rangePost F n P l Q { a with defers := mark ++ a.defers }) := by
  refine ⟨l, [d], W1, { target := .fn (.func gf) lb, args := #[.func (.yield l) #[] #[]] }, W1, gf, #[.func (.yield l) #[] #[]] ++ lb, W1, ?_, ?_, ?_, ?_, ?_, ?_⟩
  · exact he
  · exact range_e1 hg
  · exact range_e3 hFg
  · dsimp only
    exact range_e2 eg
  · exact fun _ => h1
  · exact hc

/-- The statement, where its record and the block of the rounds' deferred calls are laid: what is left is the iterator's one call. -/
theorem range_open {F : Fence} {n : Nat} {P : Program} {g : Operand} {ps : Array Tmp} {assign body : Code} {Q : Exit → Act → World → Prop} {a : Act} {w : World}
    (hro : F.round = none) (h1 : 1 ≤ n) {gf : Nat} {lb : Array Value} (hg : a.eval g = .func (.func gf) #[] lb) (hFg : F.fn gf) (eg : ∀ args w, (callFunc gf args).run P w = .ok (.enter gf args) w)
    (h : ∀ (fn : FuncId) (rec : LoopState → Option Code → Loop), F.fn fn → rec = (fun st pe => { state := st, pending := pe, fn, tmps := a.tmps, params := ps, assign, body, defers := w.heap.size }) →
      CallsIn F (n - 1) P gf (#[.func (.yield (w.heap.size + 1)) #[] #[]] ++ lb) ((w.alloc (.deferred (some []))).alloc (.loop (rec .ready none)))
        (rangePost F n P (w.heap.size + 1) Q { a with defers := [{ target := .collected w.heap.size, args := #[] }] ++ a.defers })) :
    (Code.rangeFunc g ps assign body).wpIn F n P Q a w := by
  refine wpIn_rangeFunc fun fn hfn => ?_
  exact range_step h1 hg hFg eg (by rw [hro]; exact run_enterLoop_outer fn a.tmps ps assign body) (h fn (fun st pe => { state := st, pending := pe, fn, tmps := a.tmps, params := ps, assign, body, defers := w.heap.size }) hfn rfl)

/-- One round that goes on: its assignment, its body from where the record is busy; the record is ready behind it. -/
theorem round_open {F : Fence} {m : Nat} {P : Program} {l : Nat} {W : World} {rec : LoopState → Option Code → Loop} {fn : FuncId} {tm : Array Value} {ps : Array Tmp} {assign body : Code} {D : Nat} {args : Array Value} {R : Ending → World → Prop} (hF : F.fn fn)
    (hrec : rec = fun st pe => { state := st, pending := pe, fn, tmps := tm, params := ps, assign, body, defers := D }) (hl : W.heap[l]? = some (.loop (rec .ready none))) (hsz : args.size = ps.size) (a₁ : Act)
    (hassign : ∀ (K : Act → World → Prop), K a₁ W → assign.wpIn (F.inRound l) m P (Exit.then K (fun _ _ _ => False)) { tmps := (ps.zip args).foldl (fun t (p, v) => t.setIfInBounds p v) tm, defers := [] } W)
    (hbody : body.wpIn (F.inRound l) m P (fun e _ W3 => e = .normal ∧ W3.heap[l]? = some (.loop { rec .ready none with state := .busy }) ∧ R (.returned (.bool true)) (W3.putObj l (.loop (rec .ready none)))) a₁ (W.putObj l (.loop { rec .ready none with state := .busy }))) :
    YieldAt F m P l args W R := by
  have hy := run_yield (P := P) (args := args) hl (by rw [hrec]; exact hsz)
  rw [hrec] at hy
  refine ⟨fn, _, assign, body, hy, roundIn_of_wpIn hF (hassign _ ⟨_, run_beginRound hl (by rw [hrec]), ?_⟩)⟩
  refine wpIn_mono hbody ?_
  rintro e a3 W3 ⟨rfl, hl3, hR⟩
  have := run_endRound (P := P) none hl3
  refine ⟨_, _, this, ?_⟩
  rw [hrec] at hR ⊢
  simpa using hR

end Go.Proofs.YtpbamamplmbgjaaGreatDoor

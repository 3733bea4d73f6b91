/- Functions whose first result lies in a cell of its own. Holds for every program. -/
import Derived.Test.YtijjnlfmlcbfpaaArr
set_option linter.unusedSimpArgs false
set_option linter.unusedVariables false
namespace Go.Proofs.Ytijjnlfmlcbfpaa
open Go
theorem m_ld {P : Program} {f : Fr} {w : World} {ds : Option Nat} {K : Value → World → Prop} {ty : TypeId} {pos : String} {aft : Array Edge} {gd : Option (Nat × Bool)} {t : TypeId} {x : Operand} {a : Addr} (v : Value)
    (ht : ∀ w, (isAgg t).run P w = .ok false w) (hx : ev f x = .pointer (some a)) (hl : w.cell? a = some v) (h : K v w) : StepV P f ⟨ds, .load t x, ty, pos, aft, gd⟩ w K := by
  refine StepV.value (w' := w) ?_ h
  simp [execOp, hx, Instr.loadAt, Instr.sureAddr, loadVar, ht, hl]
section
variable {P : Program} {w : World}
theorem Ret_of_X2 {g : FuncId} {fn : Func} {l : List Value} {R : Value → World → Prop} {t : TypeId} {sz : Nat} (n s u : Nat) (hf : P.funcs[g]? = some fn) (hb : fn.body.isSome = true) (hn : fn.ntmps = n) (hl : Nat.ble l.length n = true) (hr : fn.results = #[.cell s t, .tmp u])
    (ht : ∀ w, (isAgg t).run P w = .ok true w) (hsz : ∀ w, (sizeOf t).run P w = .ok sz w)
    (h : XC P n fn.code (topX fun f w' => ∃ (a : Addr) (vs : List Value), f s = .pointer (some a) ∧ vs.length = sz ∧ (∀ j v, vs[j]? = some v → w'.cell? (a.add j) = some v) ∧ RetV R (.tuple #[.agg vs.toArray, f u]) w') (fr0 l) w) : Ret P g l.toArray w R := by
  obtain ⟨c, hc⟩ := Option.isSome_iff_exists.1 hb
  have hcode : fn.code = c := by simp [Func.code, hc]
  rw [hcode] at h
  have hle : l.length ≤ n := Nat.le_of_ble_eq_true hl
  refine calls_of_wp hf hc ?_
  refine wp_mono (h _ ⟨?_, rfl, ?_⟩) fun e a' w' hq => ?_
  · simp [hn]; omega
  · intro t
    simp only [fr0, Array.getD_eq_getD_getElem?, List.getD_eq_getElem?_getD]
    by_cases ht : t < l.length
    · rw [Array.getElem?_append_left (by simpa using ht)]; simp
    · rw [Array.getElem?_append_right (by simpa using Nat.le_of_not_lt ht), List.getElem?_eq_none (Nat.le_of_not_lt ht)]
      simp only [Option.getD_none, Array.getElem?_replicate]
      split <;> rfl
  · obtain ⟨f', hf', q⟩ := hq
    have key : ∀ (a : Addr) (vs : List Value), f' s = .pointer (some a) → vs.length = sz → (∀ j v, vs[j]? = some v → w'.cell? (a.add j) = some v) → (results fn a'.tmps).run P w' = .ok (.tuple #[.agg vs.toArray, f' u]) w' := by
      intro a vs ha hlen hl
      subst hlen
      unfold results
      rw [hr]
      simp only [List.mapM_toArray, List.mapM_cons, List.mapM_nil, Sem.run_bind, Sem.run_map, Sem.run_pure, Result.andThen_ok, hf'.2.2, ha, asAddr, loadVar, ht, hsz, run_loadCells_list w' a vs hl, if_true]
      rfl
    cases e with
    | normal => obtain ⟨a, vs, h1, h2, h3, h4⟩ := q; exact ⟨hf'.2.1, _, key a vs h1 h2 h3, h4⟩
    | ret => obtain ⟨a, vs, h1, h2, h3, h4⟩ := q; exact ⟨hf'.2.1, _, key a vs h1 h2 h3, h4⟩
    | _ => exact q.elim
end
end Go.Proofs.Ytijjnlfmlcbfpaa

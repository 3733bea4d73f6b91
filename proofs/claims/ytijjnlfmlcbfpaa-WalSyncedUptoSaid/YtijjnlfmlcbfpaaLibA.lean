/- Contracts of small functions of Go's library, over this program: bytes.Clone. -/
import Derived.Test.YtijjnlfmlcbfpaaFacts
set_option linter.unusedVariables false
namespace Go.Proofs.Ytijjnlfmlcbfpaa
open Go

abbrev Byt := List Int
def u8s (b : Byt) : List Value := b.map (Value.int .u8)
theorem u8s_len (b : Byt) : (u8s b).length = b.length := by simp [u8s]
theorem u8s_one (b : Byt) : ∀ v ∈ u8s b, v.oneCell' = true := by intro v hv; obtain ⟨x, _, rfl⟩ := List.mem_map.1 hv; rfl
theorem u8s_inj {a b : Byt} (h : u8s a = u8s b) : a = b := by
  have hm : ∀ l : Byt, (u8s l).map (fun v => match v with | .int _ n => n | _ => 0) = l := by
    intro l
    induction l with
    | nil => rfl
    | cons x r ih => simpa [u8s] using ih
  rw [← hm a, ← hm b, h]
theorem Row.nil_of_none {w : World} {l : Nat} {xs : List Value} (h : Row w none l xs) : l = 0 ∧ xs = [] := by
  have : xs = [] := by
    cases xs with
    | nil => rfl
    | cons y r => obtain ⟨b, o, he, _⟩ := h.2 0 y rfl; cases he
  subst this
  exact ⟨h.1.symm, rfl⟩

theorem Clone_ok {w : World} {a : Option Addr} {l c : Nat} {xs : List Value} (hr : Row w a l xs) (h1 : ∀ v ∈ xs, v.oneCell' = true) (hl : l ≤ 140737488355328) :
    Ret Try.prog 15 #[.slice a l c] w fun v w' => ∃ a' c', v = .slice a' l c' ∧ w'.ownsRow w.heap.size 5 1 v l xs ∧ Chg No w w' ∧ (a' = none ↔ a = none) := by
  cases a with
  | none =>
    obtain ⟨rfl, rfl⟩ := hr.nil_of_none
    refine Ret_of_X 8 Try.func15 rfl Try.ntmps15 rfl rfl ?_
    refine XC_seq rfl ?_
    refine XC_region rfl ?_
    refine o_as (.slice _ _ _) rfl rfl rfl rfl ?_
    refine XO_end rfl ?_
    refine thenX_normal ?_
    refine XC_seq rfl ?_
    refine XC_seq rfl ?_
    refine XC_region rfl ?_
    refine o_mv (.slice _ _ _) rfl rfl rfl rfl ?_
    refine o_eqsl rfl rfl rfl Try.underlying28 rfl rfl ?_
    refine XO_end rfl ?_
    refine thenX_normal ?_
    refine XC_cond_true rfl rfl ?_
    refine XC_seq rfl ?_
    refine XC_region rfl ?_
    refine o_as (.slice _ _ _) rfl rfl rfl rfl ?_
    refine XO_end rfl ?_
    refine thenX_normal ?_
    refine XC_ret rfl ?_
    refine thenX_ret ?_
    refine topX_ret ?_
    refine RetV_of (.slice _ _ _) rfl ?_
    exact ⟨none, 0, rfl, World.ownsRow_nil _ _ _ _, Chg.refl _ _, by simp⟩
  | some ad =>
    refine Ret_of_X 8 Try.func15 rfl Try.ntmps15 rfl rfl ?_
    refine XC_seq rfl ?_
    refine XC_region rfl ?_
    refine o_as (.slice _ _ _) rfl rfl rfl rfl ?_
    refine XO_end rfl ?_
    refine thenX_normal ?_
    refine XC_seq rfl ?_
    refine XC_seq rfl ?_
    refine XC_region rfl ?_
    refine o_mv (.slice _ _ _) rfl rfl rfl rfl ?_
    refine o_eqsl rfl rfl rfl Try.underlying28 rfl rfl ?_
    refine XO_end rfl ?_
    refine thenX_normal ?_
    refine XC_cond_false rfl rfl ?_
    refine XC_skip rfl ?_
    refine thenX_normal ?_
    refine XC_seq rfl ?_
    refine XC_region rfl ?_
    refine XO_stepd rfl rfl rfl rfl (m_bsl [] Try.underlying28 Try.sizeOf5 Try.zeroValue5 rfl rfl rfl rfl (by simp [Value.oneCell']) ?_)
    intro w1 hc1 hs1 hB1
    have hown : w1.ownsRow w.heap.size 5 1 (.slice (some ⟨w.heap.size, 0, none⟩) 0 0) 0 [] := ⟨rfl, .inr ⟨_, _, _, rfl, Nat.le_refl _, hB1, Nat.le_refl _, by unfold maxLen; omega, rfl, rfl⟩⟩
    refine o_mv (.slice _ _ _) rfl rfl rfl rfl ?_
    refine XO_stepd rfl rfl rfl rfl (m_app (bytes := 1) Try.underlying28 Try.typeInfo5 rfl rfl rfl rfl rfl rfl (hown) (hr.keepNo hc1) (h1) (by omega) (by omega) (by omega) ?_)
    intro a' c' w2 ho2 hc2 hb2 hn2
    refine o_as (.slice _ _ _) rfl rfl rfl rfl ?_
    refine XO_end rfl ?_
    refine thenX_normal ?_
    refine XC_ret rfl ?_
    refine topX_ret ?_
    refine RetV_of (.slice _ _ _) rfl ?_
    exact ⟨a', c', by simp, by simpa using ho2, hc1.then hc2 (fun _ _ h => h) (fun k hk hm => by obtain ⟨ad', he, hb⟩ := hm; injection he with he; subst he; simp only at hb; omega), by simp [hn2]⟩
end Go.Proofs.Ytijjnlfmlcbfpaa

/- Comparing lists of bytes; elements of more than one cell. -/
import Derived.Test.YtijjnlfmlcbfpaaCrash
set_option linter.unusedVariables false
set_option maxRecDepth 4000
namespace Go.Proofs.Ytijjnlfmlcbfpaa
open Go

def SlBs (w : World) (v : Value) (rs : List Byt) : Prop := ∃ a k vs, v = .slice a rs.length k ∧ Row w a rs.length vs ∧ vs.length = rs.length ∧ ∀ (j : Nat) (u : Value) (b : Byt), vs[j]? = some u → rs[j]? = some b → SlB w u b ∧ Okb b
theorem TextsZ.slbs {γ : Nat → Nat} {w : World} {v : Value} {rs : List Byt} (h : TextsZ γ w v rs) : SlBs w v rs :=
  let ⟨a, k, vs, h1, h2, h3, h4⟩ := h
  ⟨a, k, vs, h1, h2.1, h3, fun j u b hu hb => let ⟨a', k', e1, e2, _, e4⟩ := h4 j u b hu hb; ⟨⟨a', k', e1, e2.1⟩, e4⟩⟩

theorem EqualFunc_ok {w : World} {x y : Value} {rs ss : List Byt} (hx : SlBs w x rs) (hy : SlBs w y ss) (hL : rs.length ≤ 1000000000) (hL2 : ss.length ≤ 1000000000) :
    Ret Try.prog 72 #[x, y, .func (.func 73) #[] #[]] w fun v w' => v = .bool (decide (rs = ss)) ∧ w = w' := by
  obtain ⟨a, k, vs, rfl, hr, hvl, hvs⟩ := hx
  obtain ⟨a', k', us, rfl, hr', hul, hus⟩ := hy
  refine Ret_of_X 32 Try.func72 rfl Try.ntmps72 rfl rfl ?_
  refine XC_seq rfl ?_
  refine XC_region rfl ?_
  refine o_as (.bool _) rfl rfl rfl rfl ?_
  refine XO_end rfl ?_
  refine thenX_normal ?_
  refine XC_seq rfl ?_
  refine XC_seq rfl ?_
  refine XC_region rfl ?_
  refine o_mv (.slice _ _ _) rfl rfl rfl rfl ?_
  refine o_len rfl rfl rfl Try.underlying22 rfl ?_
  refine o_mv (.slice _ _ _) rfl rfl rfl rfl ?_
  refine o_len rfl rfl rfl Try.underlying22 rfl ?_
  refine o_neq rfl rfl rfl rfl rfl ?_
  refine XO_end rfl ?_
  refine thenX_normal ?_
  refine XC_cond rfl rfl (fun hlen => ?_) (fun hlen => ?_)
  · try simp only [decide_eq_true_eq, decide_eq_false_iff_not, Int.not_lt, Int.not_le, ne_eq, Decidable.not_not, gt_iff_lt, ge_iff_le] at hlen
    refine XC_seq rfl ?_
    refine XC_region rfl ?_
    refine o_as (.bool _) rfl rfl rfl rfl ?_
    refine XO_end rfl ?_
    refine thenX_normal ?_
    refine XC_ret rfl ?_
    refine thenX_ret ?_
    refine topX_ret ?_
    refine RetV_of (.bool _) rfl ?_
    exact ⟨by rw [decide_eq_false (fun e => by subst e; simp at hlen)], rfl⟩
  · try simp only [decide_eq_true_eq, decide_eq_false_iff_not, Int.not_lt, Int.not_le, ne_eq, Decidable.not_not, gt_iff_lt, ge_iff_le] at hlen
    have hll : rs.length = ss.length := by omega
    refine XC_skip rfl ?_
    refine thenX_normal ?_
    refine XC_seq rfl ?_
    refine XC_seq rfl ?_
    refine XC_region rfl ?_
    refine o_mv (.slice _ _ _) rfl rfl rfl rfl ?_
    refine o_len rfl rfl rfl Try.underlying22 rfl ?_
    refine o_mv (.int _ _) rfl rfl rfl rfl ?_
    refine XO_end rfl ?_
    refine thenX_normal ?_
    refine XC_block (id := 0) rfl ?_
    refine XC_loop (fun m l w' => ∃ i : Nat, l = [(0, .slice a rs.length k), (1, .slice a' ss.length k'), (2, .func (.func 73) #[] #[]), (15, .slice a rs.length k), (16, .int .i64 (rs.length : Int)), (17, .int .i64 (i : Int))] ∧ i ≤ rs.length ∧ m = rs.length - i ∧ w = w' ∧ (∀ j < i, rs[j]? = ss[j]?)) rfl (rs.length) [(0, .slice a rs.length k), (1, .slice a' ss.length k'), (2, .func (.func 73) #[] #[]), (15, .slice a rs.length k), (16, .int .i64 (rs.length : Int)), (17, .int .i64 ((0 : Nat) : Int))] ?_ ?_ ?_
    · exact Agrees.cons rfl (Agrees.cons rfl (Agrees.cons rfl (Agrees.cons rfl (Agrees.cons rfl (Agrees.cons rfl (Agrees.nil _))))))
    · exact ⟨0, rfl, by omega, rfl, rfl, fun j hj => by omega⟩
    intro m l w' g ⟨i, hl, hi, hm, hw, hall⟩
    subst hl; subst hw
    refine XC_seq rfl ?_
    refine XC_region rfl ?_
    refine o_lss rfl rfl rfl rfl rfl ?_
    refine XO_end rfl ?_
    refine thenX_normal ?_
    refine XC_seq rfl ?_
    refine XC_cond rfl rfl (fun hlt => ?_) (fun hlt => ?_)
    · try simp only [decide_eq_true_eq, decide_eq_false_iff_not, Int.not_lt, Int.not_le, ne_eq, Decidable.not_not, gt_iff_lt, ge_iff_le] at hlt
      have hlt' : i < rs.length := by omega
      obtain ⟨b1, o1, v1, ha1, hv1, hc1⟩ := hr.at_ hlt'
      obtain ⟨b2, o2, v2, ha2, hv2, hc2⟩ := hr'.at_ (k := i) (by omega)
      obtain ⟨x1, hx1⟩ : ∃ x, rs[i]? = some x := ⟨_, List.getElem?_eq_getElem (by omega)⟩
      obtain ⟨x2, hx2⟩ : ∃ x, ss[i]? = some x := ⟨_, List.getElem?_eq_getElem (by omega)⟩
      obtain ⟨⟨c1, k1, rfl, hrow1⟩, hok1⟩ := hvs i v1 x1 hv1 hx1
      obtain ⟨⟨c2, k2, rfl, hrow2⟩, hok2⟩ := hus i v2 x2 hv2 hx2
      subst ha1
      subst ha2
      refine XC_skip rfl ?_
      refine thenX_normal ?_
      refine XC_seq rfl ?_
      refine XC_block (id := 1) rfl ?_
      refine XC_seq rfl ?_
      refine XC_region rfl ?_
      refine o_mv (.int _ _) rfl rfl rfl rfl ?_
      refine o_ia (i) rfl rfl rfl Try.underlying22 Try.sizeOf28 rfl rfl (by first | rfl | omega) (by omega) ?_
      refine o_ld (.slice _ _ _) rfl rfl rfl Try.isAgg28 rfl (hc1) ?_
      refine o_as (.int _ _) rfl rfl rfl rfl ?_
      refine o_as (.slice _ _ _) rfl rfl rfl rfl ?_
      refine XO_end rfl ?_
      refine thenX_normal ?_
      refine XC_seq rfl ?_
      refine XC_region rfl ?_
      refine o_mv (.slice _ _ _) rfl rfl rfl rfl ?_
      refine o_mv (.int _ _) rfl rfl rfl rfl ?_
      refine o_ia (i) rfl rfl rfl Try.underlying22 Try.sizeOf28 rfl rfl (by first | rfl | omega) (by omega) ?_
      refine o_ld (.slice _ _ _) rfl rfl rfl Try.isAgg28 rfl (hc2) ?_
      refine o_as (.slice _ _ _) rfl rfl rfl rfl ?_
      refine XO_end rfl ?_
      refine thenX_normal ?_
      refine XC_seq rfl ?_
      refine XC_region rfl ?_
      refine o_mv (.func _ _ _) rfl rfl rfl rfl ?_
      refine o_mv (.slice _ _ _) rfl rfl rfl rfl ?_
      refine o_mv (.slice _ _ _) rfl rfl rfl rfl ?_
      refine XO_stepd rfl rfl rfl rfl (m_callv rfl Try.call73 (Equal_ok hrow1 hrow2 hok1 hok2) rfl ?_)
      rintro _ _ ⟨rfl, rfl⟩
      refine o_not rfl rfl rfl rfl ?_
      refine XO_end rfl ?_
      refine thenX_normal ?_
      refine XC_cond rfl rfl (fun hne => ?_) (fun hne => ?_)
      · try simp only [decide_eq_true_eq, decide_eq_false_iff_not, Int.not_lt, Int.not_le, ne_eq, Decidable.not_not, gt_iff_lt, ge_iff_le] at hne
        have hne' : x1 ≠ x2 := by simpa using hne
        refine XC_seq rfl ?_
        refine XC_region rfl ?_
        refine o_as (.bool _) rfl rfl rfl rfl ?_
        refine XO_end rfl ?_
        refine thenX_normal ?_
        refine XC_ret rfl ?_
        refine inBlockX_ret ?_
        refine thenX_ret ?_
        refine thenX_ret ?_
        refine inBlockX_ret ?_
        refine thenX_ret ?_
        refine topX_ret ?_
        refine RetV_of (.bool _) rfl ?_
        exact ⟨by rw [decide_eq_false (fun e => hne' (by subst e; rw [hx1] at hx2; injection hx2))], rfl⟩
      · try simp only [decide_eq_true_eq, decide_eq_false_iff_not, Int.not_lt, Int.not_le, ne_eq, Decidable.not_not, gt_iff_lt, ge_iff_le] at hne
        have heq : x1 = x2 := by simpa using hne
        refine XC_skip rfl ?_
        refine inBlockX_normal ?_
        refine thenX_normal ?_
        refine XC_region rfl ?_
        refine o_add _ rfl rfl rfl rfl rfl (in64 (by omega) (by omega)) ?_
        refine o_mv (.int _ _) rfl rfl rfl rfl ?_
        refine XO_end rfl ?_
        refine thenX_normal ?_
        exact ⟨rs.length - (i + 1), [(0, .slice _ rs.length k), (1, .slice _ ss.length k'), (2, .func (.func 73) #[] #[]), (15, .slice _ rs.length k), (16, .int .i64 (rs.length : Int)), (17, .int .i64 ((i : Int) + 1))], by omega, Agrees.cons rfl (Agrees.cons rfl (Agrees.cons rfl (Agrees.cons rfl (Agrees.cons rfl (Agrees.cons rfl (Agrees.nil _)))))), ⟨i + 1, rfl, by omega, rfl, rfl, fun j hj => by rcases Nat.lt_or_ge j i with h | h; exact hall j h; rw [show j = i by omega, hx1, hx2, heq]⟩⟩
    · try simp only [decide_eq_true_eq, decide_eq_false_iff_not, Int.not_lt, Int.not_le, ne_eq, Decidable.not_not, gt_iff_lt, ge_iff_le] at hlt
      refine XC_exit rfl ?_
      refine thenX_exit ?_
      refine thenX_exit ?_
      refine inBlockX_here ?_
      refine thenX_normal ?_
      refine XC_seq rfl ?_
      refine XC_region rfl ?_
      refine o_as (.bool _) rfl rfl rfl rfl ?_
      refine XO_end rfl ?_
      refine thenX_normal ?_
      refine XC_ret rfl ?_
      refine topX_ret ?_
      refine RetV_of (.bool _) rfl ?_
      exact ⟨by rw [decide_eq_true (List.ext_getElem? fun j => by rcases Nat.lt_or_ge j rs.length with h | h; exact hall j (by omega); rw [List.getElem?_eq_none h, List.getElem?_eq_none (by omega)])], rfl⟩
theorem SameTexts_ok {w : World} {x y : Value} {rs ss : List Byt} (hx : SlBs w x rs) (hy : SlBs w y ss) (hL : rs.length ≤ 1000000000) (hL2 : ss.length ≤ 1000000000) :
    Ret Try.prog 19 #[x, y] w fun v w' => v = .bool (decide (rs = ss)) ∧ w = w' := by
  obtain ⟨a, k, vs, rfl, hx'⟩ := id hx
  obtain ⟨a', k', us, rfl, hy'⟩ := id hy
  refine Ret_of_X 8 Try.func19 rfl Try.ntmps19 rfl rfl ?_
  refine XC_seq rfl ?_
  refine XC_region rfl ?_
  refine o_as (.bool _) rfl rfl rfl rfl ?_
  refine XO_end rfl ?_
  refine thenX_normal ?_
  refine XC_seq rfl ?_
  refine XC_region rfl ?_
  refine o_mv (.slice _ _ _) rfl rfl rfl rfl ?_
  refine o_mv (.slice _ _ _) rfl rfl rfl rfl ?_
  refine XO_stepd rfl rfl rfl rfl (m_call Try.call72 (EqualFunc_ok hx hy hL hL2) rfl ?_)
  rintro _ _ ⟨rfl, rfl⟩
  refine o_as (.bool _) rfl rfl rfl rfl ?_
  refine XO_end rfl ?_
  refine thenX_normal ?_
  refine XC_ret rfl ?_
  refine topX_ret ?_
  refine RetV_of (.bool _) rfl ?_
  exact ⟨rfl, rfl⟩

end Go.Proofs.Ytijjnlfmlcbfpaa

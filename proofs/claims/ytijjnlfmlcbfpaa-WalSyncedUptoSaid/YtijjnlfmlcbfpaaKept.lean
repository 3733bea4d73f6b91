/- For the laws of logs behind crashes: which dirty sectors are kept. -/
import Derived.Test.YtijjnlfmlcbfpaaDirty
import Derived.Test.YtijjnlfmlcbfpaaSyncI
import Derived.Test.YtijjnlfmlcbfpaaSame
set_option linter.unusedVariables false
set_option linter.unusedSimpArgs false
set_option maxRecDepth 4000
namespace Go.Proofs.Ytijjnlfmlcbfpaa
open Go

theorem kept_ok {w : World} {a : Option Addr} {L c : Nat} {ks : List Int} {mask : Int} (hr : Row w a L (i64s ks)) (hL : L ≤ 1000000000) :
    Ret Try.prog 53 #[.slice a L c, .int .u64 mask] w fun v w' => ∃ (ks' : List Int) (a' : Option Addr) (c' : Nat), v = .slice a' ks'.length c' ∧ w'.ownsRow w.heap.size 3 1 (.slice a' ks'.length c') ks'.length (i64s ks') ∧ Chg No w w' ∧ ks'.length ≤ L ∧ (ks = [] → ks' = []) := by
  have hkl : ks.length = L := by have := hr.1; simpa [i64s] using this
  refine Ret_of_X 28 Try.func53 rfl Try.ntmps53 rfl rfl ?_
  refine XC_seq rfl ?_
  refine XC_region rfl ?_
  refine o_as (.slice _ _ _) rfl rfl rfl rfl ?_
  refine XO_end rfl ?_
  refine thenX_normal ?_
  refine XC_seq rfl ?_
  refine XC_region rfl ?_
  refine o_as (.slice _ _ _) rfl rfl rfl rfl ?_
  refine XO_end rfl ?_
  refine thenX_normal ?_
  refine XC_seq rfl ?_
  refine XC_seq rfl ?_
  refine XC_region rfl ?_
  refine o_mv (.slice _ _ _) rfl rfl rfl rfl ?_
  refine o_len rfl rfl rfl Try.underlying51 rfl ?_
  refine o_mv (.int _ _) rfl rfl rfl rfl ?_
  refine XO_end rfl ?_
  refine thenX_normal ?_
  refine XC_block (id := 0) rfl ?_
  refine XC_loop (fun m l w' => ∃ (k : Nat) (ks' : List Int) (a5 : Option Addr) (c5 : Nat), l = [(1, .int .u64 mask), (5, .slice a5 ks'.length c5), (8, .slice a L c), (9, .int .i64 (L : Int)), (10, .int .i64 (k : Int))] ∧ k ≤ L ∧ m = L - k ∧ ks'.length ≤ k ∧ Chg No w w' ∧ w'.ownsRow w.heap.size 3 1 (.slice a5 ks'.length c5) ks'.length (i64s ks')) rfl (L) [(1, .int .u64 mask), (5, .slice none 0 0), (8, .slice a L c), (9, .int .i64 (L : Int)), (10, .int .i64 0)] ?_ ?_ ?_
  · exact Agrees.cons rfl (Agrees.cons rfl (Agrees.cons rfl (Agrees.cons rfl (Agrees.cons rfl (Agrees.nil _)))))
  · exact ⟨0, [], none, 0, rfl, by omega, rfl, by simp, Chg.refl _ _, World.ownsRow_nil _ _ _ _⟩
  intro m l wr g ⟨k, ks', a5, c5, hl, hk, hm, hle, hcw, hown⟩
  subst hl
  refine XC_seq rfl ?_
  refine XC_region rfl ?_
  refine o_lss rfl rfl rfl rfl rfl ?_
  refine XO_end rfl ?_
  refine thenX_normal ?_
  refine XC_seq rfl ?_
  refine XC_cond rfl rfl (fun hlt => ?_) (fun hlt => ?_)
  · try simp only [decide_eq_true_eq, decide_eq_false_iff_not, Int.not_lt, Int.not_le, ne_eq, Decidable.not_not, gt_iff_lt, ge_iff_le] at hlt
    have hlt' : k < L := by omega
    obtain ⟨b, o, v, ha, hv, hc⟩ := (hr.keepNo hcw).at_ hlt'
    obtain ⟨x, hx, rfl⟩ : ∃ x, ks[k]? = some x ∧ v = .int .i64 x := by have h2 := hv; simp only [i64s, List.getElem?_map] at h2; cases hb : ks[k]? with | none => (rw [hb] at h2; cases h2) | some x => (rw [hb] at h2; injection h2 with h2; exact ⟨x, rfl, h2.symm⟩)
    have hsz := hcw.size
    subst ha
    refine XC_skip rfl ?_
    refine thenX_normal ?_
    refine XC_seq rfl ?_
    refine XC_block (id := 1) rfl ?_
    refine XC_seq rfl ?_
    refine XC_region rfl ?_
    refine o_mv (.int _ _) rfl rfl rfl rfl ?_
    refine o_ia (k) rfl rfl rfl Try.underlying51 Try.sizeOf3 rfl rfl (by first | rfl | omega) (by omega) ?_
    refine o_ld (.int _ _) rfl rfl rfl Try.isAgg3 rfl (hc) ?_
    refine o_as (.int _ _) rfl rfl rfl rfl ?_
    refine o_as (.int _ _) rfl rfl rfl rfl ?_
    refine XO_end rfl ?_
    refine thenX_normal ?_
    refine XC_seq rfl ?_
    refine XC_region rfl ?_
    refine o_mv (.int _ _) rfl rfl rfl rfl ?_
    refine o_mv (.int _ _) rfl rfl rfl rfl ?_
    refine o_cvi ((k : Int)) rfl rfl rfl Try.underlying71 (by rw [Try.underlying3]; rfl) rfl (inu64 (by omega) (by omega)) ?_
    refine o_rem (((k % 64 : Nat) : Int)) rfl rfl rfl rfl rfl (by omega) (Int.ofNat_tmod k 64).symm ?_
    refine o_shr (_) rfl rfl rfl rfl rfl (by omega) (by simp only [IntKind.bits]; omega) rfl ?_
    refine o_and _ rfl rfl rfl rfl rfl rfl ?_
    refine o_eql rfl rfl rfl rfl rfl ?_
    refine XO_end rfl ?_
    refine thenX_normal ?_
    refine XC_cond rfl rfl (fun hb => ?_) (fun hb => ?_)
    · try simp only [decide_eq_true_eq, decide_eq_false_iff_not, Int.not_lt, Int.not_le, ne_eq, Decidable.not_not, gt_iff_lt, ge_iff_le] at hb
      refine XC_region rfl ?_
      refine o_mv (.slice _ _ _) rfl rfl rfl rfl ?_
      refine o_mv (.int _ _) rfl rfl rfl rfl ?_
      refine XO_stepd rfl rfl rfl rfl (m_bsl [.int _ _] Try.underlying51 Try.sizeOf3 Try.zeroValue3 rfl rfl rfl rfl (by simp [Value.oneCell']) ?_)
      intro w3 hc3 hs3 hB3
      have hrow3 : Row w3 (some ⟨wr.heap.size, 0, none⟩) 1 (i64s [x]) := Row.of_cells (xs := i64s [x]) hB3 rfl
      refine XO_stepd rfl rfl rfl rfl (m_app (bytes := 8) Try.underlying51 Try.typeInfo3 rfl rfl rfl rfl rfl rfl (own_keep hown hc3 (fun _ _ h => h)) (hrow3) ((by intro u hu; simp [i64s] at hu; subst hu; rfl)) (by omega) (by omega) (by omega) ?_)
      intro a6 c6 w4 ho4 hc4 hb4 hn4
      have hcw4 : Chg No w w4 := (hcw.trans hc3).then hc4 (fun _ _ h => h) (fun i hi hm => by have := own_blk hown i hm; omega)
      refine o_as (.slice _ _ _) rfl rfl rfl rfl ?_
      refine XO_end rfl ?_
      refine inBlockX_normal ?_
      refine thenX_normal ?_
      refine XC_region rfl ?_
      refine o_add _ rfl rfl rfl rfl rfl (in64 (by omega) (by omega)) ?_
      refine o_mv (.int _ _) rfl rfl rfl rfl ?_
      refine XO_end rfl ?_
      refine thenX_normal ?_
      exact ⟨L - (k + 1), [(1, .int .u64 mask), (5, .slice a6 (ks'.length + 1) c6), (8, .slice _ L c), (9, .int .i64 (L : Int)), (10, .int .i64 ((k : Int) + 1))], by omega, Agrees.cons rfl (Agrees.cons rfl (Agrees.cons rfl (Agrees.cons rfl (Agrees.cons rfl (Agrees.nil _))))), ⟨k + 1, ks' ++ [x], a6, c6, by rw [List.length_append]; rfl, by omega, rfl, by rw [List.length_append]; simp; omega, hcw4, by rw [List.length_append]; simpa [i64s] using ho4⟩⟩
    · try simp only [decide_eq_true_eq, decide_eq_false_iff_not, Int.not_lt, Int.not_le, ne_eq, Decidable.not_not, gt_iff_lt, ge_iff_le] at hb
      refine XC_skip rfl ?_
      refine inBlockX_normal ?_
      refine thenX_normal ?_
      refine XC_region rfl ?_
      refine o_add _ rfl rfl rfl rfl rfl (in64 (by omega) (by omega)) ?_
      refine o_mv (.int _ _) rfl rfl rfl rfl ?_
      refine XO_end rfl ?_
      refine thenX_normal ?_
      exact ⟨L - (k + 1), [(1, .int .u64 mask), (5, .slice a5 ks'.length c5), (8, .slice _ L c), (9, .int .i64 (L : Int)), (10, .int .i64 ((k : Int) + 1))], by omega, Agrees.cons rfl (Agrees.cons rfl (Agrees.cons rfl (Agrees.cons rfl (Agrees.cons rfl (Agrees.nil _))))), ⟨k + 1, ks', a5, c5, rfl, by omega, rfl, by omega, hcw, hown⟩⟩
  · try simp only [decide_eq_true_eq, decide_eq_false_iff_not, Int.not_lt, Int.not_le, ne_eq, Decidable.not_not, gt_iff_lt, ge_iff_le] at hlt
    refine XC_exit rfl ?_
    refine thenX_exit ?_
    refine thenX_exit ?_
    refine inBlockX_here ?_
    refine thenX_normal ?_
    refine XC_seq rfl ?_
    refine XC_region rfl ?_
    refine o_mv (.slice _ _ _) rfl rfl rfl rfl ?_
    refine o_as (.slice _ _ _) rfl rfl rfl rfl ?_
    refine XO_end rfl ?_
    refine thenX_normal ?_
    refine XC_ret rfl ?_
    refine topX_ret ?_
    refine RetV_of (.slice _ _ _) rfl ?_
    exact ⟨ks', a5, c5, rfl, hown, hcw, by omega, fun h => by subst h; simp at hkl; exact List.eq_nil_of_length_eq_zero (by omega)⟩
end Go.Proofs.Ytijjnlfmlcbfpaa

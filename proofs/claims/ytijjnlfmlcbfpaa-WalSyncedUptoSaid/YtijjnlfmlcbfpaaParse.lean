/- Reading a head's sector. -/
import Derived.Test.YtijjnlfmlcbfpaaWalC
import Derived.Test.YtijjnlfmlcbfpaaRes
set_option linter.unusedVariables false
set_option maxRecDepth 4000
namespace Go.Proofs.Ytijjnlfmlcbfpaa
open Go

theorem and1 {n : Nat} (h : n ≤ 1152921504606846977) : bits .and .i64 (n : Int) 1 = ((n % 2 : Nat) : Int) := by
  have h3 : n &&& 1 = n % 2 := Nat.and_one_is_mod n
  have h4 : n % 18446744073709551616 = n := Nat.mod_eq_of_lt (by omega)
  have key : (BitVec.ofInt 64 (n : Int) &&& BitVec.ofInt 64 1).toNat = n % 2 := by
    rw [BitVec.toNat_and]
    simp [BitVec.toNat_ofInt]
    try (rw [h4]; exact h3)
  exact (congrArg (fun m : Nat => IntKind.i64.wrap (m : Int)) key).trans (in64 (by omega) (by omega))

def numStep (a x : Int) : Int := bits .or .i64 (IntKind.i64.wrap (a * 2 ^ (8 : Int).toNat)) x
def numB (b : Byt) : Int := b.foldl numStep 0
def wordB (b : Byt) (i : Nat) : Byt := (b.take (8 * i + 9)).drop (8 * i + 1)
def numAt (b : Byt) (i : Nat) : Int := numB (wordB b i)
def inR (x : Int) : Prop := 0 ≤ x ∧ x ≤ 1152921504606846976
def okHead (b : Byt) (sector size : Nat) : Prop :=
  (∀ i < 4, inR (numAt b i)) ∧ 0 < numAt b 0 ∧ (numAt b 0).toNat % 2 = sector ∧ 0 < numAt b 1 ∧ 0 < numAt b 3 ∧ numAt b 2 < size ∧ headB (numAt b 0) (numAt b 1) (numAt b 2) (numAt b 3) = b

theorem numB_snoc {b : Byt} {k : Nat} {x : Int} (h : b[k]? = some x) : numB (b.take (k + 1)) = numStep (numB (b.take k)) x := by
  unfold numB; rw [List.take_add_one, h]; simp

def arrK (b : Byt) (k : Nat) (x : Int) : Array Value := ((List.range 4).map fun i => Value.int .i64 (if i < k then numAt b i else if i = k then x else 0)).toArray
theorem arrK_get {b : Byt} {k : Nat} {x : Int} (h : k < 4) : (arrK b k x)[k]? = some (.int .i64 x) := by
  simp [arrK, h]
theorem arrK_set {b : Byt} {k : Nat} {x y : Int} (h : k < 4) : (arrK b k x).setIfInBounds k (.int .i64 y) = arrK b k y := by
  obtain rfl | rfl | rfl | rfl : k = 0 ∨ k = 1 ∨ k = 2 ∨ k = 3 := by omega
  all_goals simp [arrK, List.range, List.range.loop]
theorem arrK_next {b : Byt} {k : Nat} (h : k < 4) : arrK b k (numAt b k) = arrK b (k + 1) 0 := by
  obtain rfl | rfl | rfl | rfl : k = 0 ∨ k = 1 ∨ k = 2 ∨ k = 3 := by omega
  all_goals simp [arrK, List.range, List.range.loop]

theorem At.cellsN {w : World} {b : Nat} {cs : Array Value} {T : TypeId} {z : Nat × Nat} {vs : List Value} (h : At w b (.cells cs T z)) (hl : cs.toList = vs) : ∀ j v, vs[j]? = some v → w.cell? (Addr.add ⟨b, 0, none⟩ j) = some v := by
  intro j v hv
  rw [Addr.add_lit, h.cell, Nat.zero_add]
  rw [← hl] at hv; simpa using hv
theorem arrK_four (b : Byt) : arrK b 4 0 = #[.int .i64 (numAt b 0), .int .i64 (numAt b 1), .int .i64 (numAt b 2), .int .i64 (numAt b 3)] := by
  simp [arrK, List.range, List.range.loop]
theorem wordB_len {b : Byt} {k : Nat} (h : b.length = 64) (hk : k < 4) : (wordB b k).length = 8 := by simp [wordB]; omega

theorem parse_ok {w : World} {a : Option Addr} {c : Nat} {b : Byt} {sector size : Nat} (hr : Row w a 64 (u8s b)) (hok : Okb b) (hc64 : 64 ≤ c) (hsize : size ≤ 8192) (hsec : sector ≤ 1) :
    Ret Try.prog 67 #[.slice a 64 c, .int .i64 (sector : Int), .int .i64 (size : Int)] w fun v w' => ∃ h0 h1 h2 h3 ok, v = .tuple #[.agg #[.int .i64 h0, .int .i64 h1, .int .i64 h2, .int .i64 h3], .bool ok] ∧ Chg No w w' ∧ (ok = true ↔ okHead b sector size) ∧ (ok = true → h0 = numAt b 0 ∧ h1 = numAt b 1 ∧ h2 = numAt b 2 ∧ h3 = numAt b 3) := by
  have hbl : b.length = 64 := by have := hr.1; rwa [u8s_len] at this
  refine Ret_of_X2 95 6 7 Try.func67 rfl Try.ntmps67 rfl rfl Try.isAgg102 Try.sizeOf102 ?_
  refine XC_seq rfl ?_
  refine XC_region rfl ?_
  refine XO_stepd rfl rfl rfl rfl (m_alloc [.int _ _, .int _ _, .int _ _, .int _ _] Try.zeroValue102 rfl ?_)
  intro w1 hc1 hs1 hB1
  refine o_as (.bool _) rfl rfl rfl rfl ?_
  refine XO_end rfl ?_
  refine thenX_normal ?_
  refine XC_seq rfl ?_
  refine XC_region rfl ?_
  refine XO_stepd rfl rfl rfl rfl (m_alloc [.int _ _, .int _ _, .int _ _, .int _ _] Try.zeroValue159 rfl ?_)
  intro w2 hc2 hs2 hB2
  refine XO_end rfl ?_
  refine thenX_normal ?_
  have hc02 := hc1.trans hc2
  have hB16 := hB1.keep hc2 (fun x => x)
  refine XC_seq rfl ?_
  refine XC_seq rfl ?_
  refine XC_region rfl ?_
  refine o_mv (.int _ _) rfl rfl rfl rfl ?_
  refine XO_end rfl ?_
  refine thenX_normal ?_
  refine XC_block (id := 0) rfl ?_
  refine XC_loop (fun m l w' => ∃ k : Nat, l = [(0, .slice a 64 c), (1, .int .i64 (sector : Int)), (2, .int .i64 (size : Int)), (6, .pointer (some ⟨w.heap.size, 0, none⟩)), (8, .pointer (some ⟨w1.heap.size, 0, none⟩)), (14, .int .i64 (k : Int))] ∧ k ≤ 4 ∧ m = 4 - k ∧ Chg No w w' ∧ At w' w.heap.size (.cells #[.int .i64 0, .int .i64 0, .int .i64 0, .int .i64 0] 102 (0, 0)) ∧ At w' w1.heap.size (.cells (arrK b k 0) 159 (0, 0)) ∧ (∀ i < k, inR (numAt b i))) rfl (4) [(0, .slice a 64 c), (1, .int .i64 (sector : Int)), (2, .int .i64 (size : Int)), (6, .pointer (some ⟨w.heap.size, 0, none⟩)), (8, .pointer (some ⟨w1.heap.size, 0, none⟩)), (14, .int .i64 ((0 : Nat) : Int))] ?_ ?_ ?_
  · exact Agrees.cons rfl (Agrees.cons rfl (Agrees.cons rfl (Agrees.cons rfl (Agrees.cons rfl (Agrees.cons rfl (Agrees.nil _))))))
  · exact ⟨0, rfl, by omega, rfl, hc02, hB16, by simpa [arrK, List.range, List.range.loop] using hB2, fun i hi => by omega⟩
  intro m l wr g ⟨k, hl, hk, hm, hcw, hB6', hB8, hin⟩
  subst hl
  refine XC_seq rfl ?_
  refine XC_region rfl ?_
  refine o_lss rfl rfl rfl rfl rfl ?_
  refine XO_end rfl ?_
  refine thenX_normal ?_
  refine XC_seq rfl ?_
  refine XC_cond rfl rfl (fun hlt => ?_) (fun hlt => ?_)
  · try simp only [decide_eq_true_eq, decide_eq_false_iff_not, Int.not_lt, Int.not_le, ne_eq, Decidable.not_not, gt_iff_lt, ge_iff_le] at hlt
    have hlt' : k < 4 := by omega
    have hrr := hr.keepNo hcw
    refine XC_skip rfl ?_
    refine thenX_normal ?_
    refine XC_seq rfl ?_
    refine XC_block (id := 1) rfl ?_
    refine XC_seq rfl ?_
    refine XC_region rfl ?_
    refine o_mv (.int _ _) rfl rfl rfl rfl ?_
    refine o_as (.int _ _) rfl rfl rfl rfl ?_
    refine XO_end rfl ?_
    refine thenX_normal ?_
    refine XC_seq rfl ?_
    refine XC_seq rfl ?_
    refine XC_region rfl ?_
    refine o_mv (.slice _ _ _) rfl rfl rfl rfl ?_
    refine o_mv (.int _ _) rfl rfl rfl rfl ?_
    refine o_mul _ rfl rfl rfl rfl rfl (in64 (by omega) (by omega)) ?_
    refine o_add _ rfl rfl rfl rfl rfl (in64 (by omega) (by omega)) ?_
    refine o_mv (.int _ _) rfl rfl rfl rfl ?_
    refine o_mul _ rfl rfl rfl rfl rfl (in64 (by omega) (by omega)) ?_
    refine o_add _ rfl rfl rfl rfl rfl (in64 (by omega) (by omega)) ?_
    refine o_cut (8 * k + 1) (8 * k + 9) (c) rfl rfl rfl Try.underlying28 Try.sizeOf5 rfl (fun _ => rfl) rfl ⟨_, _, rfl, by first | rfl | omega, by omega⟩ ⟨_, _, rfl, by first | rfl | omega, by omega⟩ ?_
    have hrow : Row wr (cutAt c (8 * k + 1) a) (8 * k + 9 - (8 * k + 1)) (u8s (wordB b k)) := by rw [wordB, u8s_drop, u8s_take]; exact hrr.cut (by omega) (by omega) (by omega)
    rw [show 8 * k + 9 - (8 * k + 1) = 8 by omega] at hrow
    rw [show 8 * k + 9 - (8 * k + 1) = 8 by omega]
    have hblk : ∀ kk, isBlk (cutAt c (8 * k + 1) a) kk → kk < w.heap.size := fun kk hb => hr.blk_lt (by omega) (cutAt_blk hb)
    generalize cutAt c (8 * k + 1) a = a24 at hrow hblk ⊢
    generalize c - (8 * k + 1) = c24
    refine o_len rfl rfl rfl Try.underlying28 rfl ?_
    refine o_mv (.int _ _) rfl rfl rfl rfl ?_
    refine XO_end rfl ?_
    refine thenX_normal ?_
    refine XC_block (id := 2) rfl ?_
    refine XC_loop (fun m2 l w' => ∃ j : Nat, l = [(0, .slice a 64 c), (1, .int .i64 (sector : Int)), (2, .int .i64 (size : Int)), (6, .pointer (some ⟨w.heap.size, 0, none⟩)), (8, .pointer (some ⟨w1.heap.size, 0, none⟩)), (9, .int .i64 (k : Int)), (14, .int .i64 (k : Int)), (24, .slice a24 8 c24), (25, .int .i64 8), (26, .int .i64 (j : Int))] ∧ j ≤ 8 ∧ m2 = 8 - j ∧ Chg No w w' ∧ At w' w.heap.size (.cells #[.int .i64 0, .int .i64 0, .int .i64 0, .int .i64 0] 102 (0, 0)) ∧ Row w' a24 8 (u8s (wordB b k)) ∧ At w' w1.heap.size (.cells (arrK b k (numB ((wordB b k).take j))) 159 (0, 0))) rfl (8) [(0, .slice a 64 c), (1, .int .i64 (sector : Int)), (2, .int .i64 (size : Int)), (6, .pointer (some ⟨w.heap.size, 0, none⟩)), (8, .pointer (some ⟨w1.heap.size, 0, none⟩)), (9, .int .i64 (k : Int)), (14, .int .i64 (k : Int)), (24, .slice a24 8 c24), (25, .int .i64 8), (26, .int .i64 ((0 : Nat) : Int))] ?_ ?_ ?_
    · exact Agrees.cons rfl (Agrees.cons rfl (Agrees.cons rfl (Agrees.cons rfl (Agrees.cons rfl (Agrees.cons rfl (Agrees.cons rfl (Agrees.cons rfl (Agrees.cons rfl (Agrees.cons rfl (Agrees.nil _))))))))))
    · exact ⟨0, rfl, by omega, rfl, hcw, hB6', hrow, hB8⟩
    intro m2 l wq g2 ⟨j, hl2, hj, hm2, hcq, hB6q, hrowq, hB8q⟩
    subst hl2
    refine XC_seq rfl ?_
    refine XC_region rfl ?_
    refine o_lss rfl rfl rfl rfl rfl ?_
    refine XO_end rfl ?_
    refine thenX_normal ?_
    refine XC_seq rfl ?_
    refine XC_cond rfl rfl (fun hlt2 => ?_) (fun hlt2 => ?_)
    · try simp only [decide_eq_true_eq, decide_eq_false_iff_not, Int.not_lt, Int.not_le, ne_eq, Decidable.not_not, gt_iff_lt, ge_iff_le] at hlt2
      have hlt2' : j < 8 := by omega
      obtain ⟨bb, o, v, ha, hv, hcell⟩ := hrowq.at_ hlt2'
      obtain ⟨x, hx, rfl⟩ : ∃ x, (wordB b k)[j]? = some x ∧ v = .int .u8 x := by have h2 := hv; simp only [u8s, List.getElem?_map] at h2; cases hb : (wordB b k)[j]? with | none => (rw [hb] at h2; cases h2) | some x => (rw [hb] at h2; injection h2 with h2; exact ⟨x, rfl, h2.symm⟩)
      have hxb := hok x (List.mem_of_mem_take (List.mem_of_mem_drop (List.mem_of_getElem? hx)))
      subst ha
      refine XC_skip rfl ?_
      refine thenX_normal ?_
      refine XC_seq rfl ?_
      refine XC_block (id := 3) rfl ?_
      refine XC_seq rfl ?_
      refine XC_region rfl ?_
      refine o_ia (j) rfl rfl rfl Try.underlying28 Try.sizeOf5 rfl rfl (by first | rfl | omega) (by omega) ?_
      refine o_ld (.int _ _) rfl rfl rfl Try.isAgg5 rfl (hcell) ?_
      refine o_as (.int _ _) rfl rfl rfl rfl ?_
      refine XO_end rfl ?_
      refine thenX_normal ?_
      refine XC_region rfl ?_
      refine o_mv (.int _ _) rfl rfl rfl rfl ?_
      refine o_mv (.int _ _) rfl rfl rfl rfl ?_
      refine o_iaA (k) rfl rfl rfl Try.underlying159 Try.sizeOf3 rfl rfl (by first | rfl | omega) (by omega) ?_
      refine o_ld (.int _ _) rfl rfl rfl Try.isAgg3 rfl (by rw [hB8q.cell, Nat.zero_add]; exact arrK_get hlt') ?_
      refine o_shl (_) rfl rfl rfl rfl rfl (by decide) (by decide) rfl ?_
      refine o_mv (.int _ _) rfl rfl rfl rfl ?_
      refine o_cvi (_) rfl rfl rfl Try.underlying3 (by rw [Try.underlying5]; rfl) rfl (in64 (by omega) (by omega)) ?_
      refine o_or _ rfl rfl rfl rfl rfl rfl ?_
      refine o_iaA (k) rfl rfl rfl Try.underlying159 Try.sizeOf3 rfl rfl (by first | rfl | omega) (by omega) ?_
      have hsz8 : (arrK b k (numB (List.take j (wordB b k)))).size = 4 := by simp [arrK]
      refine XO_stepn rfl rfl rfl (m_st (.int _ _) Try.sizeOf3 rfl rfl rfl (by assumption) (by first | decide | (simp; done) | omega | (simp; omega)) ?_)
      intro w3 hc3 hs3 hB3
      refine XO_end rfl ?_
      refine inBlockX_normal ?_
      refine thenX_normal ?_
      have hB3' : At w3 w1.heap.size (.cells (arrK b k (numB ((wordB b k).take (j + 1)))) 159 (0, 0)) := by rw [numB_snoc hx, numStep, ← arrK_set (x := numB ((wordB b k).take j)) hlt']; simpa using hB3
      refine XC_region rfl ?_
      refine o_add _ rfl rfl rfl rfl rfl (in64 (by omega) (by omega)) ?_
      refine o_mv (.int _ _) rfl rfl rfl rfl ?_
      refine XO_end rfl ?_
      refine thenX_normal ?_
      exact ⟨8 - (j + 1), [(0, .slice a 64 c), (1, .int .i64 (sector : Int)), (2, .int .i64 (size : Int)), (6, .pointer (some ⟨w.heap.size, 0, none⟩)), (8, .pointer (some ⟨w1.heap.size, 0, none⟩)), (9, .int .i64 (k : Int)), (14, .int .i64 (k : Int)), (24, .slice _ 8 c24), (25, .int .i64 8), (26, .int .i64 ((j : Int) + 1))], by omega, Agrees.cons rfl (Agrees.cons rfl (Agrees.cons rfl (Agrees.cons rfl (Agrees.cons rfl (Agrees.cons rfl (Agrees.cons rfl (Agrees.cons rfl (Agrees.cons rfl (Agrees.cons rfl (Agrees.nil _)))))))))), ⟨j + 1, rfl, by omega, rfl, hcq.then hc3 (fun _ _ h => h) (fun i hi e => by omega), hB6q.keep hc3 (by show ¬ w.heap.size = w1.heap.size; omega), hrowq.keep hc3 (fun _ kk hb e => by have := hblk kk hb; omega), hB3'⟩⟩
    · try simp only [decide_eq_true_eq, decide_eq_false_iff_not, Int.not_lt, Int.not_le, ne_eq, Decidable.not_not, gt_iff_lt, ge_iff_le] at hlt2
      obtain rfl : j = 8 := by omega
      have hnum : numB ((wordB b k).take 8) = numAt b k := by rw [List.take_of_length_le (by rw [wordB_len hbl hlt']; omega)]; rfl
      rw [hnum] at hB8q
      refine XC_exit rfl ?_
      refine thenX_exit ?_
      refine thenX_exit ?_
      refine inBlockX_here ?_
      refine thenX_normal ?_
      refine XC_seq rfl ?_
      refine XC_region rfl ?_
      refine o_mv (.int _ _) rfl rfl rfl rfl ?_
      refine o_iaA (k) rfl rfl rfl Try.underlying159 Try.sizeOf3 rfl rfl (by first | rfl | omega) (by omega) ?_
      refine o_ld (.int _ _) rfl rfl rfl Try.isAgg3 rfl (by rw [hB8q.cell, Nat.zero_add]; exact arrK_get hlt') ?_
      refine o_lss rfl rfl rfl rfl rfl ?_
      refine o_mv (.bool _) rfl rfl rfl rfl ?_
      refine XO_bool 44 rfl (fun hneg => ?_) (fun hneg => ?_)
      · try simp only [decide_eq_true_eq, decide_eq_false_iff_not, Int.not_lt, Int.not_le, ne_eq, Decidable.not_not, gt_iff_lt, ge_iff_le] at hneg
        refine XO_barred rfl rfl rfl rfl ?_
        refine XO_barred rfl rfl rfl rfl ?_
        refine XO_barred rfl rfl rfl rfl ?_
        refine XO_barred rfl rfl rfl rfl ?_
        refine o_pick1 (.bool _) rfl rfl rfl rfl rfl ?_
        refine XO_end rfl ?_
        refine thenX_normal ?_
        refine XC_cond_true rfl rfl ?_
        refine XC_seq rfl ?_
        refine XC_region rfl ?_
        refine o_build (pl := [(0, 1), (1, 1), (2, 1), (3, 1)]) [.int _ _, .int _ _, .int _ _, .int _ _] rfl rfl rfl (by kernel_rfl) Try.zeroValue102 rfl rfl ?_
        refine XO_stepn rfl rfl rfl (m_stA [.int _ _, .int _ _, .int _ _, .int _ _] Try.sizeOf102 rfl rfl rfl (by simp [Value.oneCell']) (by assumption) (by simp) ?_)
        intro w4 hc4 hs4 hB4
        refine o_as (.bool _) rfl rfl rfl rfl ?_
        refine XO_end rfl ?_
        refine thenX_normal ?_
        refine XC_ret rfl ?_
        refine inBlockX_ret ?_
        refine thenX_ret ?_
        refine thenX_ret ?_
        refine inBlockX_ret ?_
        refine thenX_ret ?_
        refine topX_ret ?_
        refine ⟨_, [.int .i64 0, .int .i64 0, .int .i64 0, .int .i64 0], rfl, rfl, At.cellsN hB4 rfl, ?_⟩
        refine RetV_of (.tuple #[.agg _, .bool _]) rfl ?_
        exact ⟨0, 0, 0, 0, false, rfl, hcq.then hc4 (fun _ _ h => h) (fun i hi e => by omega), ⟨fun h => (by cases h), fun h => absurd (h.1 k hlt').1 (by omega)⟩, fun h => by cases h⟩
      · try simp only [decide_eq_true_eq, decide_eq_false_iff_not, Int.not_lt, Int.not_le, ne_eq, Decidable.not_not, gt_iff_lt, ge_iff_le] at hneg
        refine o_mv (.int _ _) rfl rfl rfl rfl ?_
        refine o_iaA (k) rfl rfl rfl Try.underlying159 Try.sizeOf3 rfl rfl (by first | rfl | omega) (by omega) ?_
        refine o_ld (.int _ _) rfl rfl rfl Try.isAgg3 rfl (by rw [hB8q.cell, Nat.zero_add]; exact arrK_get hlt') ?_
        refine o_gtr rfl rfl rfl rfl rfl ?_
        refine o_pick0 (.bool _) rfl rfl rfl rfl rfl ?_
        refine XO_end rfl ?_
        refine thenX_normal ?_
        refine XC_cond rfl rfl (fun hbig => ?_) (fun hbig => ?_)
        · try simp only [decide_eq_true_eq, decide_eq_false_iff_not, Int.not_lt, Int.not_le, ne_eq, Decidable.not_not, gt_iff_lt, ge_iff_le] at hbig
          refine XC_seq rfl ?_
          refine XC_region rfl ?_
          refine o_build (pl := [(0, 1), (1, 1), (2, 1), (3, 1)]) [.int _ _, .int _ _, .int _ _, .int _ _] rfl rfl rfl (by kernel_rfl) Try.zeroValue102 rfl rfl ?_
          refine XO_stepn rfl rfl rfl (m_stA [.int _ _, .int _ _, .int _ _, .int _ _] Try.sizeOf102 rfl rfl rfl (by simp [Value.oneCell']) (by assumption) (by simp) ?_)
          intro w4 hc4 hs4 hB4
          refine o_as (.bool _) rfl rfl rfl rfl ?_
          refine XO_end rfl ?_
          refine thenX_normal ?_
          refine XC_ret rfl ?_
          refine inBlockX_ret ?_
          refine thenX_ret ?_
          refine thenX_ret ?_
          refine inBlockX_ret ?_
          refine thenX_ret ?_
          refine topX_ret ?_
          refine ⟨_, [.int .i64 0, .int .i64 0, .int .i64 0, .int .i64 0], rfl, rfl, At.cellsN hB4 rfl, ?_⟩
          refine RetV_of (.tuple #[.agg _, .bool _]) rfl ?_
          exact ⟨0, 0, 0, 0, false, rfl, hcq.then hc4 (fun _ _ h => h) (fun i hi e => by omega), ⟨fun h => (by cases h), fun h => absurd (h.1 k hlt').2 (by omega)⟩, fun h => by cases h⟩
        · try simp only [decide_eq_true_eq, decide_eq_false_iff_not, Int.not_lt, Int.not_le, ne_eq, Decidable.not_not, gt_iff_lt, ge_iff_le] at hbig
          refine XC_skip rfl ?_
          refine inBlockX_normal ?_
          refine thenX_normal ?_
          refine XC_region rfl ?_
          refine o_add _ rfl rfl rfl rfl rfl (in64 (by omega) (by omega)) ?_
          refine o_mv (.int _ _) rfl rfl rfl rfl ?_
          refine XO_end rfl ?_
          refine thenX_normal ?_
          exact ⟨4 - (k + 1), [(0, .slice a 64 c), (1, .int .i64 (sector : Int)), (2, .int .i64 (size : Int)), (6, .pointer (some ⟨w.heap.size, 0, none⟩)), (8, .pointer (some ⟨w1.heap.size, 0, none⟩)), (14, .int .i64 ((k : Int) + 1))], by omega, Agrees.cons rfl (Agrees.cons rfl (Agrees.cons rfl (Agrees.cons rfl (Agrees.cons rfl (Agrees.cons rfl (Agrees.nil _)))))), ⟨k + 1, rfl, by omega, rfl, hcq, hB6q, by rw [← arrK_next hlt']; exact hB8q, fun i hi => by rcases Nat.lt_or_ge i k with h | h; exact hin i h; exact (show i = k by omega) ▸ ⟨by omega, by omega⟩⟩⟩
  · try simp only [decide_eq_true_eq, decide_eq_false_iff_not, Int.not_lt, Int.not_le, ne_eq, Decidable.not_not, gt_iff_lt, ge_iff_le] at hlt
    obtain rfl : k = 4 := by omega
    rw [arrK_four] at hB8
    refine XC_exit rfl ?_
    refine thenX_exit ?_
    refine thenX_exit ?_
    refine inBlockX_here ?_
    refine thenX_normal ?_
    refine XC_seq rfl ?_
    refine XC_region rfl ?_
    refine o_iaA (0) rfl rfl rfl Try.underlying159 Try.sizeOf3 rfl rfl (by first | rfl | omega) (by omega) ?_
    refine o_ldB (.int _ _) rfl rfl rfl Try.isAgg3 rfl (by assumption) rfl ?_
    refine o_iaA (1) rfl rfl rfl Try.underlying159 Try.sizeOf3 rfl rfl (by first | rfl | omega) (by omega) ?_
    refine o_ldB (.int _ _) rfl rfl rfl Try.isAgg3 rfl (by assumption) rfl ?_
    refine o_iaA (2) rfl rfl rfl Try.underlying159 Try.sizeOf3 rfl rfl (by first | rfl | omega) (by omega) ?_
    refine o_ldB (.int _ _) rfl rfl rfl Try.isAgg3 rfl (by assumption) rfl ?_
    refine o_iaA (3) rfl rfl rfl Try.underlying159 Try.sizeOf3 rfl rfl (by first | rfl | omega) (by omega) ?_
    refine o_ldB (.int _ _) rfl rfl rfl Try.isAgg3 rfl (by assumption) rfl ?_
    refine o_build (pl := [(0, 1), (1, 1), (2, 1), (3, 1)]) [.int _ _, .int _ _, .int _ _, .int _ _] rfl rfl rfl (by kernel_rfl) Try.zeroValue102 rfl rfl ?_
    refine XO_stepd rfl rfl rfl rfl (m_alloc [.int _ _, .int _ _, .int _ _, .int _ _] Try.zeroValue102 rfl ?_)
    intro w5 hc5 hs5 hB5
    refine XO_stepn rfl rfl rfl (m_stA [.int _ _, .int _ _, .int _ _, .int _ _] Try.sizeOf102 rfl rfl rfl (by simp [Value.oneCell']) (by assumption) (by simp) ?_)
    intro w6 hc6 hs6 hB6
    refine XO_end rfl ?_
    refine thenX_normal ?_
    have hB12 : At w6 wr.heap.size (.cells #[.int .i64 (numAt b 0), .int .i64 (numAt b 1), .int .i64 (numAt b 2), .int .i64 (numAt b 3)] 102 (0, 0)) := by simpa [over] using hB6
    have hc06 : Chg No w w6 := (hcw.trans hc5).then hc6 (fun _ _ h => h) (fun i hi e => by have := hcw.size; omega)
    have hB66 : At w6 w.heap.size (.cells #[.int .i64 0, .int .i64 0, .int .i64 0, .int .i64 0] 102 (0, 0)) := (hB6'.keep hc5 (fun x => x)).keep hc6 (by show ¬ w.heap.size = wr.heap.size; have := hB6'.lt; omega)
    refine XC_cut (fun l w' => ∃ right : Bool, l = [(0, .slice a 64 c), (6, .pointer (some ⟨w.heap.size, 0, none⟩)), (12, .pointer (some ⟨wr.heap.size, 0, none⟩)), (13, .bool right)] ∧ w6 = w' ∧ (right = true ↔ 0 < numAt b 0 ∧ (numAt b 0).toNat % 2 = sector ∧ 0 < numAt b 1 ∧ 0 < numAt b 3 ∧ numAt b 2 < size)) rfl ?_ ?_
    · have hn0 := hin 0 (by omega)
      unfold inR at hn0
      have hand : bits .and .i64 (numAt b 0) 1 = (((numAt b 0).toNat % 2 : Nat) : Int) := by have := and1 (n := (numAt b 0).toNat) (by omega); rwa [Int.toNat_of_nonneg hn0.1] at this
      refine XC_region rfl ?_
      refine o_fa0 0 rfl rfl rfl Try.underlying102 rfl Try.sizeOf3 rfl rfl rfl ?_
      refine o_ldB (.int _ _) rfl rfl rfl Try.isAgg3 rfl (by assumption) rfl ?_
      refine o_gtr rfl rfl rfl rfl rfl ?_
      refine o_mv (.bool _) rfl rfl rfl rfl ?_
      refine XO_bool 64 rfl (fun h64 => ?_) (fun h64 => ?_)
      · try simp only [decide_eq_true_eq, decide_eq_false_iff_not, Int.not_lt, Int.not_le, ne_eq, Decidable.not_not, gt_iff_lt, ge_iff_le] at h64
        refine o_fa0 0 rfl rfl rfl Try.underlying102 rfl Try.sizeOf3 rfl rfl rfl ?_
        refine o_ldB (.int _ _) rfl rfl rfl Try.isAgg3 rfl (by assumption) rfl ?_
        refine o_and ((((numAt b 0).toNat % 2 : Nat) : Int)) rfl rfl rfl rfl rfl hand ?_
        refine o_mv (.int _ _) rfl rfl rfl rfl ?_
        refine o_eql rfl rfl rfl rfl rfl ?_
        refine o_pick1 (.bool _) rfl rfl rfl rfl rfl ?_
        refine o_mv (.bool _) rfl rfl rfl rfl ?_
        refine XO_bool 71 rfl (fun h71 => ?_) (fun h71 => ?_)
        · try simp only [decide_eq_true_eq, decide_eq_false_iff_not, Int.not_lt, Int.not_le, ne_eq, Decidable.not_not, gt_iff_lt, ge_iff_le] at h71
          refine o_fa0 1 rfl rfl rfl Try.underlying102 rfl Try.sizeOf3 rfl rfl rfl ?_
          refine o_ldB (.int _ _) rfl rfl rfl Try.isAgg3 rfl (by assumption) rfl ?_
          refine o_gtr rfl rfl rfl rfl rfl ?_
          refine o_pick1 (.bool _) rfl rfl rfl rfl rfl ?_
          refine o_mv (.bool _) rfl rfl rfl rfl ?_
          refine XO_bool 76 rfl (fun h76 => ?_) (fun h76 => ?_)
          · try simp only [decide_eq_true_eq, decide_eq_false_iff_not, Int.not_lt, Int.not_le, ne_eq, Decidable.not_not, gt_iff_lt, ge_iff_le] at h76
            refine o_fa0 3 rfl rfl rfl Try.underlying102 rfl Try.sizeOf3 rfl rfl rfl ?_
            refine o_ldB (.int _ _) rfl rfl rfl Try.isAgg3 rfl (by assumption) rfl ?_
            refine o_gtr rfl rfl rfl rfl rfl ?_
            refine o_pick1 (.bool _) rfl rfl rfl rfl rfl ?_
            refine o_mv (.bool _) rfl rfl rfl rfl ?_
            refine XO_bool 81 rfl (fun h81 => ?_) (fun h81 => ?_)
            · try simp only [decide_eq_true_eq, decide_eq_false_iff_not, Int.not_lt, Int.not_le, ne_eq, Decidable.not_not, gt_iff_lt, ge_iff_le] at h81
              refine o_fa0 2 rfl rfl rfl Try.underlying102 rfl Try.sizeOf3 rfl rfl rfl ?_
              refine o_ldB (.int _ _) rfl rfl rfl Try.isAgg3 rfl (by assumption) rfl ?_
              refine o_mv (.int _ _) rfl rfl rfl rfl ?_
              refine o_lss rfl rfl rfl rfl rfl ?_
              refine o_pick1 (.bool _) rfl rfl rfl rfl rfl ?_
              refine o_as (.bool _) rfl rfl rfl rfl ?_
              refine XO_end rfl ?_
              refine thenX_normal ?_
              exact ⟨[(0, .slice a 64 c), (6, .pointer (some ⟨w.heap.size, 0, none⟩)), (12, .pointer (some ⟨wr.heap.size, 0, none⟩)), (13, .bool _)], Agrees.cons rfl (Agrees.cons rfl (Agrees.cons rfl (Agrees.cons rfl (Agrees.nil _)))), ⟨_, rfl, rfl, by rw [decide_eq_true_eq]; omega⟩⟩
            · try simp only [decide_eq_true_eq, decide_eq_false_iff_not, Int.not_lt, Int.not_le, ne_eq, Decidable.not_not, gt_iff_lt, ge_iff_le] at h81
              refine XO_barred rfl rfl rfl rfl ?_
              refine XO_barred rfl rfl rfl rfl ?_
              refine XO_barred rfl rfl rfl rfl ?_
              refine XO_barred rfl rfl rfl rfl ?_
              refine o_pick0 (.bool _) rfl rfl rfl rfl rfl ?_
              refine o_as (.bool _) rfl rfl rfl rfl ?_
              refine XO_end rfl ?_
              refine thenX_normal ?_
              exact ⟨[(0, .slice a 64 c), (6, .pointer (some ⟨w.heap.size, 0, none⟩)), (12, .pointer (some ⟨wr.heap.size, 0, none⟩)), (13, .bool _)], Agrees.cons rfl (Agrees.cons rfl (Agrees.cons rfl (Agrees.cons rfl (Agrees.nil _)))), ⟨_, rfl, rfl, ⟨fun h => (by cases h), fun h => by omega⟩⟩⟩
          · try simp only [decide_eq_true_eq, decide_eq_false_iff_not, Int.not_lt, Int.not_le, ne_eq, Decidable.not_not, gt_iff_lt, ge_iff_le] at h76
            refine XO_barred rfl rfl rfl rfl ?_
            refine XO_barred rfl rfl rfl rfl ?_
            refine XO_barred rfl rfl rfl rfl ?_
            refine o_pick0 (.bool _) rfl rfl rfl rfl rfl ?_
            refine o_mv (.bool _) rfl rfl rfl rfl ?_
            refine XO_barred rfl rfl rfl rfl ?_
            refine XO_barred rfl rfl rfl rfl ?_
            refine XO_barred rfl rfl rfl rfl ?_
            refine XO_barred rfl rfl rfl rfl ?_
            refine o_pick0 (.bool _) rfl rfl rfl rfl rfl ?_
            refine o_as (.bool _) rfl rfl rfl rfl ?_
            refine XO_end rfl ?_
            refine thenX_normal ?_
            exact ⟨[(0, .slice a 64 c), (6, .pointer (some ⟨w.heap.size, 0, none⟩)), (12, .pointer (some ⟨wr.heap.size, 0, none⟩)), (13, .bool _)], Agrees.cons rfl (Agrees.cons rfl (Agrees.cons rfl (Agrees.cons rfl (Agrees.nil _)))), ⟨_, rfl, rfl, ⟨fun h => (by cases h), fun h => by omega⟩⟩⟩
        · try simp only [decide_eq_true_eq, decide_eq_false_iff_not, Int.not_lt, Int.not_le, ne_eq, Decidable.not_not, gt_iff_lt, ge_iff_le] at h71
          refine XO_barred rfl rfl rfl rfl ?_
          refine XO_barred rfl rfl rfl rfl ?_
          refine XO_barred rfl rfl rfl rfl ?_
          refine o_pick0 (.bool _) rfl rfl rfl rfl rfl ?_
          refine o_mv (.bool _) rfl rfl rfl rfl ?_
          refine XO_barred rfl rfl rfl rfl ?_
          refine XO_barred rfl rfl rfl rfl ?_
          refine XO_barred rfl rfl rfl rfl ?_
          refine o_pick0 (.bool _) rfl rfl rfl rfl rfl ?_
          refine o_mv (.bool _) rfl rfl rfl rfl ?_
          refine XO_barred rfl rfl rfl rfl ?_
          refine XO_barred rfl rfl rfl rfl ?_
          refine XO_barred rfl rfl rfl rfl ?_
          refine XO_barred rfl rfl rfl rfl ?_
          refine o_pick0 (.bool _) rfl rfl rfl rfl rfl ?_
          refine o_as (.bool _) rfl rfl rfl rfl ?_
          refine XO_end rfl ?_
          refine thenX_normal ?_
          exact ⟨[(0, .slice a 64 c), (6, .pointer (some ⟨w.heap.size, 0, none⟩)), (12, .pointer (some ⟨wr.heap.size, 0, none⟩)), (13, .bool _)], Agrees.cons rfl (Agrees.cons rfl (Agrees.cons rfl (Agrees.cons rfl (Agrees.nil _)))), ⟨_, rfl, rfl, ⟨fun h => (by cases h), fun h => by omega⟩⟩⟩
      · try simp only [decide_eq_true_eq, decide_eq_false_iff_not, Int.not_lt, Int.not_le, ne_eq, Decidable.not_not, gt_iff_lt, ge_iff_le] at h64
        refine XO_barred rfl rfl rfl rfl ?_
        refine XO_barred rfl rfl rfl rfl ?_
        refine XO_barred rfl rfl rfl rfl ?_
        refine XO_barred rfl rfl rfl rfl ?_
        refine XO_barred rfl rfl rfl rfl ?_
        refine o_pick0 (.bool _) rfl rfl rfl rfl rfl ?_
        refine o_mv (.bool _) rfl rfl rfl rfl ?_
        refine XO_barred rfl rfl rfl rfl ?_
        refine XO_barred rfl rfl rfl rfl ?_
        refine XO_barred rfl rfl rfl rfl ?_
        refine o_pick0 (.bool _) rfl rfl rfl rfl rfl ?_
        refine o_mv (.bool _) rfl rfl rfl rfl ?_
        refine XO_barred rfl rfl rfl rfl ?_
        refine XO_barred rfl rfl rfl rfl ?_
        refine XO_barred rfl rfl rfl rfl ?_
        refine o_pick0 (.bool _) rfl rfl rfl rfl rfl ?_
        refine o_mv (.bool _) rfl rfl rfl rfl ?_
        refine XO_barred rfl rfl rfl rfl ?_
        refine XO_barred rfl rfl rfl rfl ?_
        refine XO_barred rfl rfl rfl rfl ?_
        refine XO_barred rfl rfl rfl rfl ?_
        refine o_pick0 (.bool _) rfl rfl rfl rfl rfl ?_
        refine o_as (.bool _) rfl rfl rfl rfl ?_
        refine XO_end rfl ?_
        refine thenX_normal ?_
        exact ⟨[(0, .slice a 64 c), (6, .pointer (some ⟨w.heap.size, 0, none⟩)), (12, .pointer (some ⟨wr.heap.size, 0, none⟩)), (13, .bool _)], Agrees.cons rfl (Agrees.cons rfl (Agrees.cons rfl (Agrees.cons rfl (Agrees.nil _)))), ⟨_, rfl, rfl, ⟨fun h => (by cases h), fun h => by omega⟩⟩⟩
    · intro l w' g ⟨right, hl, hw, hright⟩
      subst hl; subst hw
      refine XC_seq rfl ?_
      refine XC_draw (fun w' => At w' wr.heap.size (.cells #[.int .i64 (numAt b 0), .int .i64 (numAt b 1), .int .i64 (numAt b 2), .int .i64 (numAt b 3)] 102 (0, 0))) Trymixed rfl 10 rfl ?_
      intro w7 hN hh2
      have hS := hB12.keep hN (fun x => x)
      refine q_ldN (i := 0) ([.int .i64 (numAt b 0), .int .i64 (numAt b 1), .int .i64 (numAt b 2), .int .i64 (numAt b 3)]) rfl rfl rfl (by kernel_rfl) Try.isAgg102 Try.sizeOf102 rfl rfl (fun _ h => At.cellsN h rfl) (fun _ => ?_) hS
      refine q_mv (i := 1) (.bool _) rfl rfl rfl (by kernel_rfl) rfl (fun _ => ?_) hS
      refine q_mv (i := 2) (.bool _) rfl rfl rfl (by kernel_rfl) rfl (fun _ => ?_) hS
      refine XH_bool 89 rfl (fun hri => ?_) (fun hri => ?_)
      · try simp only [decide_eq_true_eq, decide_eq_false_iff_not, Int.not_lt, Int.not_le, ne_eq, Decidable.not_not, gt_iff_lt, ge_iff_le] at hri
        refine q_ldN (i := 3) ([.int .i64 (numAt b 0), .int .i64 (numAt b 1), .int .i64 (numAt b 2), .int .i64 (numAt b 3)]) rfl rfl rfl (by kernel_rfl) Try.isAgg102 Try.sizeOf102 rfl rfl (fun _ h => At.cellsN h rfl) (fun _ => ?_) hS
        refine q_mv (i := 5) (.slice _ _ _) rfl rfl rfl (by kernel_rfl) rfl (fun _ => ?_) hS
        refine XH_stepd (i := 4) rfl rfl rfl rfl (by kernel_rfl) hS (m_call Try.call103 (headBytes_ok) rfl ?_)
        rintro _ w8 ⟨⟨a8, c8, rfl, ho8⟩, hc8⟩
        replace hS := At.keep hS hc8 (fun x => x)
        replace hN := Chg.trans hN hc8
        refine XH_stepd (i := 6) rfl rfl rfl rfl (by kernel_rfl) hS (m_call Try.call73 (Equal_ok (Row.of_own ho8) ((hr.keepNo hc06).keepNo hN) (headB_ok _ _ _ _) hok) rfl ?_)
        rintro _ w9 ⟨rfl, rfl⟩
        have hB7 := hB66.keep hN (fun x => x)
        refine q_pick1 (i := 7) (.bool _) rfl rfl rfl (by kernel_rfl) rfl rfl (fun _ => ?_) hS
        refine XH_stepn (i := 8) rfl rfl rfl (by kernel_rfl) hS (m_stA [.int _ _, .int _ _, .int _ _, .int _ _] Try.sizeOf102 rfl rfl rfl (by simp [Value.oneCell']) hB7 (by simp) ?_)
        intro w10 hc10 hs10 hB10
        replace hS := At.keep hS hc10 (by show ¬ wr.heap.size = w.heap.size; have := hB6'.lt; omega)
        refine q_as (i := 9) (.bool _) rfl rfl rfl (by kernel_rfl) rfl (fun _ => ?_) hS
        refine XH_done (by kernel_rfl) hS ?_
        refine thenX_normal ?_
        refine XC_ret rfl ?_
        refine topX_ret ?_
        refine ⟨_, [.int .i64 (numAt b 0), .int .i64 (numAt b 1), .int .i64 (numAt b 2), .int .i64 (numAt b 3)], rfl, rfl, At.cellsN hB10 rfl, ?_⟩
        refine RetV_of (.tuple #[.agg _, .bool _]) rfl ?_
        exact ⟨_, _, _, _, _, rfl, (hc06.trans hN).then hc10 (fun _ _ h => h) (fun i hi e => by omega), ⟨fun h => ⟨hin, (hright.1 hri).1, (hright.1 hri).2.1, (hright.1 hri).2.2.1, (hright.1 hri).2.2.2.1, (hright.1 hri).2.2.2.2, of_decide_eq_true h⟩, fun h => decide_eq_true h.2.2.2.2.2.2⟩, fun _ => ⟨rfl, rfl, rfl, rfl⟩⟩
      · try simp only [decide_eq_true_eq, decide_eq_false_iff_not, Int.not_lt, Int.not_le, ne_eq, Decidable.not_not, gt_iff_lt, ge_iff_le] at hri
        have hB7 := hB66.keep hN (fun x => x)
        refine XH_barred (i := 3) rfl rfl rfl rfl (by kernel_rfl) (fun _ => ?_) hS
        refine XH_barred (i := 4) rfl rfl rfl rfl (by kernel_rfl) (fun _ => ?_) hS
        refine XH_barred (i := 5) rfl rfl rfl rfl (by kernel_rfl) (fun _ => ?_) hS
        refine XH_barred (i := 6) rfl rfl rfl rfl (by kernel_rfl) (fun _ => ?_) hS
        refine q_pick0 (i := 7) (.bool _) rfl rfl rfl (by kernel_rfl) rfl rfl (fun _ => ?_) hS
        refine XH_stepn (i := 8) rfl rfl rfl (by kernel_rfl) hS (m_stA [.int _ _, .int _ _, .int _ _, .int _ _] Try.sizeOf102 rfl rfl rfl (by simp [Value.oneCell']) hB7 (by simp) ?_)
        intro w10 hc10 hs10 hB10
        replace hS := At.keep hS hc10 (by show ¬ wr.heap.size = w.heap.size; have := hB6'.lt; omega)
        refine q_as (i := 9) (.bool _) rfl rfl rfl (by kernel_rfl) rfl (fun _ => ?_) hS
        refine XH_done (by kernel_rfl) hS ?_
        refine thenX_normal ?_
        refine XC_ret rfl ?_
        refine topX_ret ?_
        refine ⟨_, [.int .i64 (numAt b 0), .int .i64 (numAt b 1), .int .i64 (numAt b 2), .int .i64 (numAt b 3)], rfl, rfl, At.cellsN hB10 rfl, ?_⟩
        refine RetV_of (.tuple #[.agg _, .bool _]) rfl ?_
        exact ⟨_, _, _, _, _, rfl, (hc06.trans hN).then hc10 (fun _ _ h => h) (fun i hi e => by omega), ⟨fun h => (by cases h), fun h => by have := hright.2 ⟨h.2.1, h.2.2.1, h.2.2.2.1, h.2.2.2.2.1, h.2.2.2.2.2.1⟩; rw [hri] at this; cases this⟩, fun h => by cases h⟩
end Go.Proofs.Ytijjnlfmlcbfpaa

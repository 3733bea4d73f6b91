/- The check sum, and a number's eight bytes. -/
import Derived.Test.YtijjnlfmlcbfpaaLibC
set_option linter.unusedVariables false
set_option maxRecDepth 4000
namespace Go.Proofs.Ytijjnlfmlcbfpaa
open Go

def crcStep (s : Int) : Int := bits .xor .u32 (s / 2 ^ (1 : Int).toNat) (bits .and .u32 2197175160 (IntKind.u32.wrap (0 - bits .and .u32 s 1)))
def crcN : Nat → Int → Int
  | 0, s => s
  | j + 1, s => crcStep (crcN j s)
def crcByte (s x : Int) : Int := crcN 8 (bits .xor .u32 s (IntKind.u32.wrap x))
def crcFrom (bs : Byt) : Int := bs.foldl crcByte 4294967295
def sumB (bs : Byt) : Int := bits .xor .u32 (IntKind.max .u32) (crcFrom bs)

theorem crcFrom_snoc {bs : Byt} {k : Nat} {b : Int} (h : bs[k]? = some b) : crcFrom (bs.take (k + 1)) = crcByte (crcFrom (bs.take k)) b := by
  unfold crcFrom; rw [List.take_add_one, h]; simp
theorem wrap_u32 (n : Int) : 0 ≤ IntKind.u32.wrap n ∧ IntKind.u32.wrap n ≤ 4294967295 := by
  simp only [IntKind.wrap, IntKind.bits, IntKind.signed]; simp; omega
theorem sumB_bd (bs : Byt) : 0 ≤ sumB bs ∧ sumB bs ≤ 4294967295 := wrap_u32 _

theorem Sum_ok {w : World} {a : Option Addr} {L c : Nat} {bs : Byt} (hr : Row w a L (u8s bs)) (hl : L ≤ 140737488355328) :
    Ret Try.prog 119 #[.slice a L c] w fun v w' => v = .int .u32 (sumB bs) ∧ w = w' := by
  refine Ret_of_X 29 Try.func119 rfl Try.ntmps119 rfl rfl ?_
  refine XC_seq rfl ?_
  refine XC_region rfl ?_
  refine o_as (.int _ _) rfl rfl rfl rfl ?_
  refine XO_end rfl ?_
  refine thenX_normal ?_
  refine XC_seq rfl ?_
  refine XC_region rfl ?_
  refine o_as (.int _ _) rfl rfl rfl rfl ?_
  refine XO_end rfl ?_
  refine thenX_normal ?_
  refine XC_seq rfl ?_
  refine XC_seq rfl ?_
  refine XC_region rfl ?_
  refine o_mv (.slice _ _ _) rfl rfl rfl rfl ?_
  refine o_len rfl rfl rfl Try.underlying28 rfl ?_
  refine o_mv (.int _ _) rfl rfl rfl rfl ?_
  refine XO_end rfl ?_
  refine thenX_normal ?_
  refine XC_block (id := 0) rfl ?_
  refine XC_loop (fun m l w' => ∃ k : Nat, l = [(3, .int .u32 (crcFrom (bs.take k))), (6, .slice a L c), (7, .int .i64 (L : Int)), (8, .int .i64 (k : Int))] ∧ k ≤ L ∧ m = L - k ∧ w = w') rfl (L) [(3, .int .u32 (crcFrom (bs.take 0))), (6, .slice a L c), (7, .int .i64 (L : Int)), (8, .int .i64 (0 : Int))] ?_ ?_ ?_
  · exact Agrees.cons rfl (Agrees.cons rfl (Agrees.cons rfl (Agrees.cons rfl (Agrees.nil _))))
  · exact ⟨0, rfl, by omega, rfl, rfl⟩
  intro m l w' g ⟨k, hl', hk, hm, hw⟩
  subst hl'; subst hw
  refine XC_seq rfl ?_
  refine XC_region rfl ?_
  refine o_lss rfl rfl rfl rfl rfl ?_
  refine XO_end rfl ?_
  refine thenX_normal ?_
  refine XC_seq rfl ?_
  refine XC_cond rfl rfl (fun hlt => ?_) (fun hlt => ?_)
  · try simp only [decide_eq_true_eq, decide_eq_false_iff_not, Int.not_lt, Int.not_le, ne_eq, Decidable.not_not, gt_iff_lt, ge_iff_le] at hlt
    have hlt' : k < L := by omega
    obtain ⟨b, o, v, ha, hv, hc⟩ := hr.at_ hlt'
    obtain ⟨x, hx, rfl⟩ : ∃ x, bs[k]? = some x ∧ v = .int .u8 x := by have h2 := hv; simp only [u8s, List.getElem?_map] at h2; cases hb : bs[k]? with | none => (rw [hb] at h2; cases h2) | some x => (rw [hb] at h2; injection h2 with h2; exact ⟨x, rfl, h2.symm⟩)
    subst ha
    refine XC_skip rfl ?_
    refine thenX_normal ?_
    refine XC_seq rfl ?_
    refine XC_block (id := 1) rfl ?_
    refine XC_seq rfl ?_
    refine XC_region rfl ?_
    refine o_ia (k) rfl rfl rfl Try.underlying28 Try.sizeOf5 rfl rfl (by first | rfl | omega) (by omega) ?_
    refine o_ld (.int _ _) rfl rfl rfl Try.isAgg5 rfl (hc) ?_
    refine o_as (.int _ _) rfl rfl rfl rfl ?_
    refine XO_end rfl ?_
    refine thenX_normal ?_
    refine XC_seq rfl ?_
    refine XC_region rfl ?_
    refine o_mv (.int _ _) rfl rfl rfl rfl ?_
    refine o_mv (.int _ _) rfl rfl rfl rfl ?_
    refine o_cvi (_) rfl rfl rfl Try.underlying63 (by rw [Try.underlying5]; rfl) rfl rfl ?_
    refine o_xor _ rfl rfl rfl rfl rfl rfl ?_
    refine o_as (.int _ _) rfl rfl rfl rfl ?_
    refine XO_end rfl ?_
    refine thenX_normal ?_
    refine XC_seq rfl ?_
    refine XC_region rfl ?_
    refine o_mv (.int _ _) rfl rfl rfl rfl ?_
    refine XO_end rfl ?_
    refine thenX_normal ?_
    refine XC_block (id := 2) rfl ?_
    refine XC_loop (fun m2 l w' => ∃ j : Nat, l = [(3, .int .u32 (crcN j (bits .xor .u32 (crcFrom (bs.take k)) (IntKind.u32.wrap x)))), (6, .slice (some ⟨b, o, none⟩) L c), (7, .int .i64 (L : Int)), (8, .int .i64 (k : Int)), (16, .int .i64 (j : Int))] ∧ j ≤ 8 ∧ m2 = 8 - j ∧ w = w') rfl (8) [(3, .int .u32 (crcN (0 : Nat) (bits .xor .u32 (crcFrom (bs.take k)) (IntKind.u32.wrap x)))), (6, .slice (some ⟨b, o, none⟩) L c), (7, .int .i64 (L : Int)), (8, .int .i64 (k : Int)), (16, .int .i64 ((0 : Nat) : Int))] ?_ ?_ ?_
    · exact Agrees.cons rfl (Agrees.cons rfl (Agrees.cons rfl (Agrees.cons rfl (Agrees.cons rfl (Agrees.nil _)))))
    · exact ⟨0, rfl, by omega, rfl, rfl⟩
    intro m2 l w' g2 ⟨j, hl2, hj, hm2, hw⟩
    subst hl2; subst hw
    refine XC_seq rfl ?_
    refine XC_region rfl ?_
    refine o_lss rfl rfl rfl rfl rfl ?_
    refine XO_end rfl ?_
    refine thenX_normal ?_
    refine XC_seq rfl ?_
    refine XC_cond rfl rfl (fun hlt2 => ?_) (fun hlt2 => ?_)
    · try simp only [decide_eq_true_eq, decide_eq_false_iff_not, Int.not_lt, Int.not_le, ne_eq, Decidable.not_not, gt_iff_lt, ge_iff_le] at hlt2
      refine XC_skip rfl ?_
      refine thenX_normal ?_
      refine XC_seq rfl ?_
      refine XC_block (id := 3) rfl ?_
      refine XC_region rfl ?_
      refine o_mv (.int _ _) rfl rfl rfl rfl ?_
      refine o_shr (_) rfl rfl rfl rfl rfl (by decide) (by decide) rfl ?_
      refine o_mv (.int _ _) rfl rfl rfl rfl ?_
      refine o_and _ rfl rfl rfl rfl rfl rfl ?_
      refine o_neg _ rfl rfl rfl rfl rfl ?_
      refine o_and _ rfl rfl rfl rfl rfl rfl ?_
      refine o_xor _ rfl rfl rfl rfl rfl rfl ?_
      refine o_as (.int _ _) rfl rfl rfl rfl ?_
      refine XO_end rfl ?_
      refine inBlockX_normal ?_
      refine thenX_normal ?_
      refine XC_region rfl ?_
      refine o_add _ rfl rfl rfl rfl rfl (in64 (by omega) (by omega)) ?_
      refine o_mv (.int _ _) rfl rfl rfl rfl ?_
      refine XO_end rfl ?_
      refine thenX_normal ?_
      exact ⟨8 - (j + 1), [(3, .int .u32 (crcN (j + 1 : Nat) (bits .xor .u32 (crcFrom (bs.take k)) (IntKind.u32.wrap x)))), (6, .slice (some ⟨b, o, none⟩) L c), (7, .int .i64 (L : Int)), (8, .int .i64 (k : Int)), (16, .int .i64 ((j + 1 : Nat) : Int))], by omega, Agrees.cons rfl (Agrees.cons rfl (Agrees.cons rfl (Agrees.cons rfl (Agrees.cons rfl (Agrees.nil _))))), ⟨j + 1, rfl, by omega, rfl, rfl⟩⟩
    · try simp only [decide_eq_true_eq, decide_eq_false_iff_not, Int.not_lt, Int.not_le, ne_eq, Decidable.not_not, gt_iff_lt, ge_iff_le] at hlt2
      obtain rfl : j = 8 := by omega
      refine XC_exit rfl ?_
      refine thenX_exit ?_
      refine thenX_exit ?_
      refine inBlockX_here ?_
      refine inBlockX_normal ?_
      refine thenX_normal ?_
      refine XC_region rfl ?_
      refine o_add _ rfl rfl rfl rfl rfl (in64 (by omega) (by omega)) ?_
      refine o_mv (.int _ _) rfl rfl rfl rfl ?_
      refine XO_end rfl ?_
      refine thenX_normal ?_
      exact ⟨L - (k + 1), [(3, .int .u32 (crcN 8 (bits .xor .u32 (crcFrom (bs.take k)) (IntKind.u32.wrap x)))), (6, .slice _ L c), (7, .int .i64 (L : Int)), (8, .int .i64 ((k : Int) + 1))], by omega, Agrees.cons rfl (Agrees.cons rfl (Agrees.cons rfl (Agrees.cons rfl (Agrees.nil _)))), ⟨k + 1, by rw [crcFrom_snoc hx]; rfl, by omega, rfl, rfl⟩⟩
  · try simp only [decide_eq_true_eq, decide_eq_false_iff_not, Int.not_lt, Int.not_le, ne_eq, Decidable.not_not, gt_iff_lt, ge_iff_le] at hlt
    obtain rfl : k = L := by omega
    rw [List.take_of_length_le (show bs.length ≤ k by have := hr.1; rw [u8s_len] at this; omega)]
    refine XC_exit rfl ?_
    refine thenX_exit ?_
    refine thenX_exit ?_
    refine inBlockX_here ?_
    refine thenX_normal ?_
    refine XC_seq rfl ?_
    refine XC_region rfl ?_
    refine o_mv (.int _ _) rfl rfl rfl rfl ?_
    refine o_uxor _ rfl rfl rfl rfl rfl rfl ?_
    refine o_as (.int _ _) rfl rfl rfl rfl ?_
    refine XO_end rfl ?_
    refine thenX_normal ?_
    refine XC_ret rfl ?_
    refine topX_ret ?_
    refine RetV_of (.int _ _) rfl ?_
    exact ⟨rfl, rfl⟩

def eightB (n : Int) : Byt := (List.range 8).map fun i => IntKind.u8.wrap (n / 2 ^ (56 - 8 * i))
theorem eightB_len (n : Int) : (eightB n).length = 8 := by simp [eightB]
theorem eightB_ok (n : Int) : Okb (eightB n) := by
  intro x hx
  obtain ⟨i, _, rfl⟩ := List.mem_map.1 hx
  simp only [IntKind.wrap, IntKind.bits, IntKind.signed]; simp; omega

theorem eight_ok {w : World} {n : Int} :
    Ret Try.prog 101 #[.int .i64 n] w fun v w' => ∃ a c, v = .slice a 8 c ∧ w'.ownsRow w.heap.size 5 1 v 8 (u8s (eightB n)) ∧ Chg No w w' := by
  refine Ret_of_X 17 Try.func101 rfl Try.ntmps101 rfl rfl ?_
  refine XC_seq rfl ?_
  refine XC_region rfl ?_
  refine o_as (.slice _ _ _) rfl rfl rfl rfl ?_
  refine XO_end rfl ?_
  refine thenX_normal ?_
  refine XC_seq rfl ?_
  refine XC_region rfl ?_
  refine o_as (.slice _ _ _) rfl rfl rfl rfl ?_
  refine XO_end rfl ?_
  refine thenX_normal ?_
  refine XC_seq rfl ?_
  refine XC_seq rfl ?_
  refine XC_region rfl ?_
  refine o_as (.int _ _) rfl rfl rfl rfl ?_
  refine XO_end rfl ?_
  refine thenX_normal ?_
  refine XC_block (id := 0) rfl ?_
  refine XC_loop (fun m l w' => ∃ (k : Nat) (a3 : Option Addr) (c3 : Nat), l = [(0, .int .i64 n), (3, .slice a3 k c3), (4, .int .i64 (56 - 8 * (k : Int)))] ∧ k ≤ 8 ∧ m = 8 - k ∧ Chg No w w' ∧ w'.ownsRow w.heap.size 5 1 (.slice a3 k c3) k (u8s ((eightB n).take k))) rfl (8) [(0, .int .i64 n), (3, .slice none (0 : Nat) 0), (4, .int .i64 (56 - 8 * ((0 : Nat) : Int)))] ?_ ?_ ?_
  · exact Agrees.cons rfl (Agrees.cons rfl (Agrees.cons rfl (Agrees.nil _)))
  · exact ⟨0, none, 0, rfl, by omega, rfl, Chg.refl _ _, World.ownsRow_nil _ _ _ _⟩
  intro m l wr g ⟨k, a3, c3, hl, hk, hm, hcw, hown⟩
  subst hl
  refine XC_seq rfl ?_
  refine XC_seq rfl ?_
  refine XC_region rfl ?_
  refine o_mv (.int _ _) rfl rfl rfl rfl ?_
  refine o_geq rfl rfl rfl rfl rfl ?_
  refine XO_end rfl ?_
  refine thenX_normal ?_
  refine XC_cond rfl rfl (fun hlt => ?_) (fun hlt => ?_)
  · try simp only [decide_eq_true_eq, decide_eq_false_iff_not, Int.not_lt, Int.not_le, ne_eq, Decidable.not_not, gt_iff_lt, ge_iff_le] at hlt
    have hlt' : k < 8 := by omega
    have hsz := hcw.size
    have htk : (eightB n).take (k + 1) = (eightB n).take k ++ [IntKind.u8.wrap (n / 2 ^ (56 - 8 * k))] := by rw [List.take_add_one]; congr 1; simp [eightB, hlt']
    refine XC_skip rfl ?_
    refine thenX_normal ?_
    refine XC_seq rfl ?_
    refine XC_block (id := 1) rfl ?_
    refine XC_region rfl ?_
    refine o_mv (.slice _ _ _) rfl rfl rfl rfl ?_
    refine o_mv (.int _ _) rfl rfl rfl rfl ?_
    refine o_mv (.int _ _) rfl rfl rfl rfl ?_
    refine o_shr (n / 2 ^ (56 - 8 * k)) rfl rfl rfl rfl rfl (by omega) (by simp only [IntKind.bits]; omega) (by rw [show (56 - 8 * (k : Int)).toNat = 56 - 8 * k from by omega]) ?_
    refine o_cvi (_) rfl rfl rfl Try.underlying5 (by rw [Try.underlying3]; rfl) rfl rfl ?_
    refine XO_stepd rfl rfl rfl rfl (m_bsl [.int _ _] Try.underlying28 Try.sizeOf5 Try.zeroValue5 rfl rfl rfl rfl (by simp [Value.oneCell']) ?_)
    intro w3 hc3 hs3 hB3
    have hrow3 : Row w3 (some ⟨wr.heap.size, 0, none⟩) 1 [.int .u8 (IntKind.u8.wrap (n / 2 ^ (56 - 8 * k)))] := Row.of_at hB3 rfl (fun j v h => by simpa using h)
    refine XO_stepd rfl rfl rfl rfl (m_app (bytes := 1) Try.underlying28 Try.typeInfo5 rfl rfl rfl rfl rfl rfl (own_keep hown hc3 (fun _ _ h => h)) (hrow3) ((by intro u hu; simp at hu; subst hu; rfl)) (by omega) (by omega) (by omega) ?_)
    intro a5 c5 w4 ho5 hc5 hb5 hn5
    have hcw4 : Chg No w w4 := (hcw.trans hc3).then hc5 (fun _ _ h => h) (fun i hi hm => by have := own_blk hown i hm; omega)
    refine o_as (.slice _ _ _) rfl rfl rfl rfl ?_
    refine XO_end rfl ?_
    refine inBlockX_normal ?_
    refine thenX_normal ?_
    refine XC_region rfl ?_
    refine o_mv (.int _ _) rfl rfl rfl rfl ?_
    refine o_sub _ rfl rfl rfl rfl rfl (in64 (by omega) (by omega)) ?_
    refine o_as (.int _ _) rfl rfl rfl rfl ?_
    refine XO_end rfl ?_
    refine thenX_normal ?_
    exact ⟨8 - (k + 1), [(0, .int .i64 n), (3, .slice a5 (k + 1) c5), (4, .int .i64 (56 - 8 * (k : Int) - 8))], by omega, Agrees.cons rfl (Agrees.cons rfl (Agrees.cons rfl (Agrees.nil _))), ⟨k + 1, a5, c5, by rw [show (56 : Int) - 8 * ((k + 1 : Nat) : Int) = 56 - 8 * (k : Int) - 8 from by omega], by omega, rfl, hcw4, by rw [htk]; simpa [u8s] using ho5⟩⟩
  · try simp only [decide_eq_true_eq, decide_eq_false_iff_not, Int.not_lt, Int.not_le, ne_eq, Decidable.not_not, gt_iff_lt, ge_iff_le] at hlt
    obtain rfl : k = 8 := by omega
    rw [List.take_of_length_le (by rw [eightB_len]; omega)] at hown
    refine XC_exit rfl ?_
    refine thenX_exit ?_
    refine thenX_exit ?_
    refine inBlockX_here ?_
    refine thenX_normal ?_
    refine XC_seq rfl ?_
    refine XC_region rfl ?_
    refine o_mv (.slice _ _ _) rfl rfl rfl rfl ?_
    refine o_as (.slice _ _ _) rfl rfl rfl rfl ?_
    refine XO_end rfl ?_
    refine thenX_normal ?_
    refine XC_ret rfl ?_
    refine topX_ret ?_
    refine RetV_of (.slice _ _ _) rfl ?_
    exact ⟨a3, c3, rfl, hown, hcw⟩
end Go.Proofs.Ytijjnlfmlcbfpaa

/- Contract of slices.Repeat at one element, over this program. -/
import Derived.Test.YtijjnlfmlcbfpaaLibB
set_option linter.unusedVariables false
set_option maxRecDepth 4000
namespace Go.Proofs.Ytijjnlfmlcbfpaa
open Go

abbrev nilSl : Value := .slice none 0 0
theorem Row.of_at {w : World} {b o l : Nat} {cs : Array Value} {t : TypeId} {z : Nat × Nat} {xs : List Value} (h : At w b (.cells cs t z)) (hl : xs.length = l) (hx : ∀ j v, xs[j]? = some v → cs.toList[o + j]? = some v) : Row w (some ⟨b, o, none⟩) l xs :=
  ⟨hl, fun j v hj => ⟨b, o, rfl, by rw [h.cell]; simpa using hx j v hj⟩⟩

theorem over_rep {v z : Value} {C n m : Nat} (hn : n ≤ C) (hm : m = min n (C - n)) : over (List.replicate n v ++ List.replicate (C - n) z) n ((List.replicate n v).take m) = List.replicate (n + m) v ++ List.replicate (C - (n + m)) z := by
  have h1 : (List.replicate n v).take m = List.replicate m v := by rw [List.take_replicate]; congr 1; omega
  rw [h1]
  unfold over
  rw [List.take_left' (by simp), List.drop_append]
  simp only [List.length_replicate, List.drop_replicate]
  rw [show n - (n + m) = 0 from by omega, show C - n - (n + m - n) = C - (n + m) from by omega]
  simp only [List.replicate_zero, List.nil_append]
  rw [List.replicate_append_replicate]

theorem Repeat_ok {w : World} {a : Option Addr} {c C : Nat} {n : Int} {v : Value} (hr : Row w a 1 [v]) (hv : v.oneCell' = true) (hn : n = (C : Int)) (h1 : 1 ≤ C) (hC : C ≤ 8192) :
    Ret Try.prog 94 #[.slice a 1 c, .int .i64 n] w fun r w' => ∃ b, r = .slice (some ⟨b, 0, none⟩) C C ∧ w.heap.size ≤ b ∧ At w' b (.cells (List.replicate C v).toArray 28 (0, 0)) ∧ Chg No w w' := by
  subst hn
  refine Ret_of_X 48 Try.func94 rfl Try.ntmps94 rfl rfl ?_
  refine XC_seq rfl ?_
  refine XC_region rfl ?_
  refine o_as (.slice _ _ _) rfl rfl rfl rfl ?_
  refine XO_end rfl ?_
  refine thenX_normal ?_
  refine XC_seq rfl ?_
  refine XC_seq rfl ?_
  refine XC_region rfl ?_
  refine o_mv (.int _ _) rfl rfl rfl rfl ?_
  refine o_lss rfl rfl rfl rfl rfl ?_
  refine XO_end rfl ?_
  refine thenX_normal ?_
  refine XC_cond rfl rfl (fun hb => ?_) (fun hb => ?_)
  · exfalso; simp at hb <;> omega
  refine XC_skip rfl ?_
  refine thenX_normal ?_
  refine XC_seq rfl ?_
  refine XC_region rfl ?_
  refine o_mv (.slice _ _ _) rfl rfl rfl rfl ?_
  refine o_len rfl rfl rfl Try.underlying22 rfl ?_
  refine o_cvi (1) rfl rfl rfl Try.underlying71 (by rw [Try.underlying3]; rfl) rfl (inu64 (by omega) (by omega)) ?_
  refine o_mv (.int _ _) rfl rfl rfl rfl ?_
  refine o_cvi ((C : Int)) rfl rfl rfl Try.underlying71 (by rw [Try.underlying3]; rfl) rfl (inu64 (by omega) (by omega)) ?_
  refine XO_stepd rfl rfl rfl rfl (m_call Try.call117 (Mul_ok (by omega) (by omega) (by omega) (by omega)) rfl ?_)
  rintro _ _ ⟨rfl, rfl⟩
  refine o_mv (.tuple _) rfl rfl rfl rfl ?_
  refine o_ext (.int _ _) rfl rfl rfl rfl rfl ?_
  refine o_ext (.int _ _) rfl rfl rfl rfl rfl ?_
  refine o_as (.int _ _) rfl rfl rfl rfl ?_
  refine o_as (.int _ _) rfl rfl rfl rfl ?_
  refine XO_end rfl ?_
  refine thenX_normal ?_
  refine XC_seq rfl ?_
  refine XC_seq rfl ?_
  refine XC_region rfl ?_
  refine o_mv (.int _ _) rfl rfl rfl rfl ?_
  refine o_gtr rfl rfl rfl rfl rfl ?_
  refine o_mv (.bool _) rfl rfl rfl rfl ?_
  refine XO_bool 23 rfl (fun hb => ?_) (fun hb => ?_)
  · exfalso; simp at hb
  refine o_mv (.int _ _) rfl rfl rfl rfl ?_
  refine o_gtr rfl rfl rfl rfl rfl ?_
  refine o_pick0 (.bool _) rfl rfl rfl rfl rfl ?_
  refine XO_end rfl ?_
  refine thenX_normal ?_
  refine XC_cond rfl rfl (fun hb => ?_) (fun hb => ?_)
  · exfalso; simp at hb <;> omega
  refine XC_skip rfl ?_
  refine thenX_normal ?_
  refine XC_seq rfl ?_
  refine XC_region rfl ?_
  refine o_mv (.int _ _) rfl rfl rfl rfl ?_
  refine o_cvi ((C : Int)) rfl rfl rfl Try.underlying3 (by rw [Try.underlying71]; rfl) rfl (by rw [Int.one_mul]; exact in64 (by omega) (by omega)) ?_
  refine XO_stepd rfl rfl rfl rfl (m_mksl (bytes := 24) (C) (C) Try.underlying22 Try.typeInfo28 rfl rfl rfl rfl rfl rfl (by first | rfl | omega) (by first | rfl | omega) (by omega) (by omega) (by omega) ?_)
  intro w1 hc1 hs1 hB1
  refine o_as (.slice _ _ _) rfl rfl rfl rfl ?_
  refine XO_end rfl ?_
  refine thenX_normal ?_
  refine XC_seq rfl ?_
  refine XC_region rfl ?_
  refine o_mv (.slice _ _ _) rfl rfl rfl rfl ?_
  refine o_mv (.slice _ _ _) rfl rfl rfl rfl ?_
  refine XO_stepd rfl rfl rfl rfl (m_copy (1) Try.underlying22 Try.sizeOf28 rfl rfl (hB1) (hr.keepNo hc1) ((by simpa using hv)) (by first | rfl | omega) (by first | (simp; done) | (simp; omega) | omega) ?_)
  intro w2 hc2 hs2 hB2
  have hB2' : At w2 w.heap.size (.cells (List.replicate 1 v ++ List.replicate (C - 1) nilSl).toArray 28 (0, 0)) := by
    have e : over (List.replicate C nilSl) 0 ([v].take 1) = List.replicate 1 v ++ List.replicate (C - 1) nilSl := by
      simp [over]
    rw [← e]; simpa using hB2
  have hcw2 : Chg No w w2 := hc1.then hc2 (fun _ _ h => h) (fun i hi hm => by omega)
  refine o_as (.int _ _) rfl rfl rfl rfl ?_
  refine XO_end rfl ?_
  refine thenX_normal ?_
  refine XC_seq rfl ?_
  refine XC_block (id := 0) rfl ?_
  refine XC_loop (fun m l w' => ∃ k : Nat, l = [(7, .slice (some ⟨w.heap.size, 0, none⟩) C C), (8, .int .i64 (k : Int))] ∧ 1 ≤ k ∧ k ≤ C ∧ m = C - k ∧ Chg No w w' ∧ At w' w.heap.size (.cells (List.replicate k v ++ List.replicate (C - k) nilSl).toArray 28 (0, 0))) rfl (C - 1) [(7, .slice (some ⟨w.heap.size, 0, none⟩) C C), (8, .int .i64 ((1 : Nat) : Int))] ?_ ?_ ?_
  · exact Agrees.cons rfl (Agrees.cons rfl (Agrees.nil _))
  · exact ⟨1, rfl, by omega, h1, rfl, hcw2, hB2'⟩
  intro m l w' g ⟨k, hl, hk1, hk, hm, hcw, hB⟩
  subst hl
  refine XC_seq rfl ?_
  refine XC_seq rfl ?_
  refine XC_region rfl ?_
  refine o_mv (.int _ _) rfl rfl rfl rfl ?_
  refine o_mv (.slice _ _ _) rfl rfl rfl rfl ?_
  refine o_len rfl rfl rfl Try.underlying22 rfl ?_
  refine o_lss rfl rfl rfl rfl rfl ?_
  refine XO_end rfl ?_
  refine thenX_normal ?_
  refine XC_cond rfl rfl (fun hlt => ?_) (fun hlt => ?_)
  · try simp only [decide_eq_true_eq, decide_eq_false_iff_not, Int.not_lt, Int.not_le, ne_eq, Decidable.not_not, gt_iff_lt, ge_iff_le] at hlt
    refine XC_skip rfl ?_
    refine thenX_normal ?_
    refine XC_block (id := 1) rfl ?_
    refine XC_draw (fun _ => True) Trymixed rfl 10 rfl ?_
    intro w3 hc3 hh3
    have hS := trivial
    refine q_mv (i := 0) (.int _ _) rfl rfl rfl (by kernel_rfl) rfl (fun _ => ?_) hS
    refine q_mv (i := 1) (.slice _ _ _) rfl rfl rfl (by kernel_rfl) rfl (fun _ => ?_) hS
    refine q_mv (i := 2) (.int _ _) rfl rfl rfl (by kernel_rfl) rfl (fun _ => ?_) hS
    refine q_cut (i := 3) (k) (C) (C) rfl rfl rfl (by kernel_rfl) Try.underlying22 Try.sizeOf28 rfl (fun _ => rfl) rfl rfl ⟨_, _, rfl, by first | rfl | omega, by omega⟩ (fun _ => ?_) hS
    refine q_mv (i := 4) (.slice _ _ _) rfl rfl rfl (by kernel_rfl) rfl (fun _ => ?_) hS
    refine q_mv (i := 5) (.int _ _) rfl rfl rfl (by kernel_rfl) rfl (fun _ => ?_) hS
    refine q_cut (i := 6) (0) (k) (C) rfl rfl rfl (by kernel_rfl) Try.underlying22 Try.sizeOf28 rfl (fun _ => rfl) rfl ⟨_, _, rfl, by first | rfl | omega, by omega⟩ rfl (fun _ => ?_) hS
    rw [show cutAt C k (some ⟨w.heap.size, 0, none⟩) = some ⟨w.heap.size, 0 + k, none⟩ from cutAt_some (by omega), cutAt_zero]
    have hB3 := hB.keep hc3 (fun h => h)
    have hrow3 : Row w3 (some ⟨w.heap.size, 0, none⟩) (k - 0) (List.replicate k v) := Row.of_at hB3 (by simp) (fun j u hj => by simp only [Nat.zero_add]; rw [List.getElem?_append_left (by have := (List.getElem?_eq_some_iff.1 hj).1; exact this)]; exact hj)
    refine XH_stepd (i := 7) rfl rfl rfl rfl (by kernel_rfl) hS (m_copy (min (k - 0) (C - k)) Try.underlying22 Try.sizeOf28 rfl rfl (hB3) (hrow3) ((by intro u hu; rw [List.eq_of_mem_replicate hu]; exact hv)) (by first | rfl | omega) (by first | (simp; done) | (simp; omega) | omega) ?_)
    intro w4 hc4 hs4 hB4
    have hB4' : At w4 w.heap.size (.cells (List.replicate (k + min (k - 0) (C - k)) v ++ List.replicate (C - (k + min (k - 0) (C - k))) nilSl).toArray 28 (0, 0)) := by
      have e := over_rep (v := v) (z := .slice none 0 0) (C := C) (n := k) (m := min (k - 0) (C - k)) hk (by omega)
      rw [← e]; simpa using hB4
    have hcw4 : Chg No w w4 := (hcw.trans hc3).then hc4 (fun _ _ h => h) (fun i hi hm => by omega)
    have hS : True := trivial
    refine q_add (i := 8) _ rfl rfl rfl (by kernel_rfl) rfl rfl (in64 (by omega) (by omega)) (fun _ => ?_) hS
    refine q_as (i := 9) (.int _ _) rfl rfl rfl (by kernel_rfl) rfl (fun _ => ?_) hS
    refine XH_done (by kernel_rfl) hS ?_
    refine inBlockX_normal ?_
    refine thenX_normal ?_
    exact ⟨C - (k + min (k - 0) (C - k)), [(7, .slice (some ⟨w.heap.size, 0, none⟩) C C), (8, .int .i64 ((k : Int) + ((min (k - 0) (C - k) : Nat) : Int)))], by omega, Agrees.cons rfl (Agrees.cons rfl (Agrees.nil _)), ⟨k + min (k - 0) (C - k), rfl, by omega, by omega, rfl, hcw4, hB4'⟩⟩
  · try simp only [decide_eq_true_eq, decide_eq_false_iff_not, Int.not_lt, Int.not_le, ne_eq, Decidable.not_not, gt_iff_lt, ge_iff_le] at hlt
    obtain rfl : k = C := by omega
    refine XC_exit rfl ?_
    refine thenX_exit ?_
    refine thenX_exit ?_
    refine inBlockX_here ?_
    refine thenX_normal ?_
    refine XC_seq rfl ?_
    refine XC_region rfl ?_
    refine o_mv (.slice _ _ _) rfl rfl rfl rfl ?_
    refine o_as (.slice _ _ _) rfl rfl rfl rfl ?_
    refine XO_end rfl ?_
    refine thenX_normal ?_
    refine XC_ret rfl ?_
    refine topX_ret ?_
    refine RetV_of (.slice _ _ _) rfl ?_
    exact ⟨w.heap.size, rfl, Nat.le_refl _, by simpa using hB, hcw⟩
end Go.Proofs.Ytijjnlfmlcbfpaa

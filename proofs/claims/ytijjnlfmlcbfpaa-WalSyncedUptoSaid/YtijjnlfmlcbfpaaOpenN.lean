/- Opening a plate of noughts. -/
import Derived.Test.YtijjnlfmlcbfpaaWalD
set_option linter.unusedVariables false
set_option maxRecDepth 4000
namespace Go.Proofs.Ytijjnlfmlcbfpaa
open Go
theorem numAt_noughts (i : Nat) (h : i < 4) : numAt noughts i = 0 := by
  obtain rfl | rfl | rfl | rfl : i = 0 ∨ i = 1 ∨ i = 2 ∨ i = 3 := by omega
  all_goals decide
theorem okHead_noughts {s n : Nat} : ¬ okHead noughts s n := fun h => by have := h.2.1; rw [numAt_noughts 0 (by omega)] at this; omega

theorem own_cap {w : World} {base e n c : Nat} {a : Option Addr} {xs : List Value} (h : w.ownsRow base e 1 (.slice a n c) n xs) (hn : 0 < n) : n ≤ c := by
  rcases h.2 with ⟨_, h0⟩ | ⟨g, cap, cur, hv, _, _, hle, _⟩
  · omega
  · injection hv with _ _ e3; omega
section
variable {γ : Nat → Nat} {c d : Nat} {w : World} {p : Nat} {S : PSt}
def freshW (S : PSt) : WSt := { size := S.all.length - 2, number := 1, life := 1, place := 0, first := 1, next := 1, used := 0 }
theorem Open_new (h : PlAt γ c w p S) (h6 : 6 ≤ S.all.length) (hz : ∀ i < S.all.length, S.get i = noughts) (c0 : c ≠ 0) (d0 : d ≠ 0) (cd : c ≠ d) :
    Ret Try.prog 18 #[.pointer (some ⟨p, 0, none⟩)] w fun v w' => ∃ q γ', v = .tuple #[.pointer (some ⟨q, 0, none⟩), .slice none 0 0, .int .i64 0] ∧ w.heap.size ≤ q ∧ Ext γ γ' (fun k => k = c ∨ k = d) w w' ∧ Log γ' c d w' q p (freshW S) (begun S 1 1 0 1) := by
  have hln := h.len
  refine Ret_of_X 179 Try.func18 rfl Try.ntmps18 rfl rfl ?_
  refine XC_seq rfl ?_
  refine XC_region rfl ?_
  refine o_as (.pointer _) rfl rfl rfl rfl ?_
  refine o_as (.slice _ _ _) rfl rfl rfl rfl ?_
  refine o_as (.int _ _) rfl rfl rfl rfl ?_
  refine XO_end rfl ?_
  refine thenX_normal ?_
  refine XC_seq rfl ?_
  refine XC_seq rfl ?_
  refine XC_region rfl ?_
  refine o_mv (.pointer _) rfl rfl rfl rfl ?_
  refine XO_stepd rfl rfl rfl rfl (m_call Try.call11 (Sectors_ok h) rfl ?_)
  rintro _ _ ⟨rfl, rfl⟩
  refine o_eql rfl rfl rfl rfl rfl ?_
  refine XO_end rfl ?_
  refine thenX_normal ?_
  refine XC_cond rfl rfl (fun hb => ?_) (fun hb => ?_)
  · exfalso; rw [decide_eq_true_eq] at hb; omega
  refine XC_skip rfl ?_
  refine thenX_normal ?_
  refine XC_seq rfl ?_
  refine XC_seq rfl ?_
  refine XC_region rfl ?_
  refine o_mv (.pointer _) rfl rfl rfl rfl ?_
  refine XO_stepd rfl rfl rfl rfl (m_call Try.call65 (Failed_ok h) rfl ?_)
  rintro _ _ ⟨rfl, rfl⟩
  refine XO_end rfl ?_
  refine thenX_normal ?_
  refine XC_cond_false rfl rfl ?_
  refine XC_skip rfl ?_
  refine thenX_normal ?_
  refine XC_seq rfl ?_
  refine XC_seq rfl ?_
  refine XC_region rfl ?_
  refine o_mv (.pointer _) rfl rfl rfl rfl ?_
  refine XO_stepd rfl rfl rfl rfl (m_call Try.call11 (Sectors_ok h) rfl ?_)
  rintro _ _ ⟨rfl, rfl⟩
  refine o_lss rfl rfl rfl rfl rfl ?_
  refine XO_end rfl ?_
  refine thenX_normal ?_
  refine XC_cond rfl rfl (fun hb => ?_) (fun hb => ?_)
  · exfalso; rw [decide_eq_true_eq] at hb; omega
  refine XC_skip rfl ?_
  refine thenX_normal ?_
  refine XC_seq rfl ?_
  refine XC_region rfl ?_
  refine o_mv (.pointer _) rfl rfl rfl rfl ?_
  refine o_mv (.pointer _) rfl rfl rfl rfl ?_
  refine XO_stepd rfl rfl rfl rfl (m_call Try.call11 (Sectors_ok h) rfl ?_)
  rintro _ _ ⟨rfl, rfl⟩
  refine o_sub _ rfl rfl rfl rfl rfl (in64 (by omega) (by omega)) ?_
  refine o_build (pl := [(0, 1), (1, 1), (2, 4), (6, 1), (7, 1)]) [.pointer _, .int _ _, .int _ _, .int _ _, .int _ _, .int _ _, .int _ _, .int _ _] rfl rfl rfl (by kernel_rfl) Try.zeroValue104 rfl rfl ?_
  refine XO_stepd rfl rfl rfl rfl (m_box (.agg _) [.pointer _, .int _ _, .int _ _, .int _ _, .int _ _, .int _ _, .int _ _, .int _ _] rfl rfl ?_)
  intro w2 hc2 hs2 hB2
  have e2 : Ext γ (recol γ w.heap.size (fun k => k = w.heap.size) d) (fun _ => False) w w2 := Ext.recol hc2
  have hgq : recol γ w.heap.size (fun k => k = w.heap.size) d w.heap.size = d := recol_in (Nat.le_refl _) rfl
  generalize recol γ w.heap.size (fun k => k = w.heap.size) d = γ2 at e2 hgq
  have h2 : Log γ2 c d w2 w.heap.size p { size := S.all.length - 2, number := 0, life := 0, place := 0, first := 0, next := 0, used := 0 } S :=
    { pl := h.ext e2 id id, gq := hgq, sz := by show S.all.length = S.all.length - 2 + 2; omega, pos := by show 1 ≤ S.all.length - 2; omega, place := by show 0 < S.all.length - 2; omega, used := by show 0 ≤ _; omega, next := by show 0 ≤ _; omega, c0 := c0, d0 := d0, cd := cd
      wa := by have e : ((S.all.length - 2 : Nat) : Int) = (S.all.length : Int) - 2 := by omega
               simpa [walC, walK, e] using hB2 }
  refine o_as (.pointer _) rfl rfl rfl rfl ?_
  refine XO_end rfl ?_
  refine thenX_normal ?_
  refine XC_seq rfl ?_
  refine XC_seq rfl ?_
  refine XC_region rfl ?_
  refine o_mv (.int _ _) rfl rfl rfl rfl ?_
  refine XO_end rfl ?_
  refine thenX_normal ?_
  refine XC_block (id := 0) rfl ?_
  refine XC_loop (fun m l w' => ∃ k : Nat, l = [(0, .pointer (some ⟨p, 0, none⟩)), (5, .pointer (some ⟨w.heap.size, 0, none⟩)), (29, .int .i64 (k : Int))] ∧ k ≤ 2 ∧ m = 2 - k ∧ Chg No w2 w') rfl (2) [(0, .pointer (some ⟨p, 0, none⟩)), (5, .pointer (some ⟨w.heap.size, 0, none⟩)), (29, .int .i64 ((0 : Nat) : Int))] ?_ ?_ ?_
  · exact Agrees.cons rfl (Agrees.cons rfl (Agrees.cons rfl (Agrees.nil _)))
  · exact ⟨0, rfl, by omega, rfl, Chg.refl _ _⟩
  intro m l wr g ⟨k, hl, hk, hm, hcw⟩
  subst hl
  refine XC_seq rfl ?_
  refine XC_region rfl ?_
  refine o_lss rfl rfl rfl rfl rfl ?_
  refine XO_end rfl ?_
  refine thenX_normal ?_
  refine XC_seq rfl ?_
  refine XC_cond rfl rfl (fun hlt => ?_) (fun hlt => ?_)
  · try simp only [decide_eq_true_eq, decide_eq_false_iff_not, Int.not_lt, Int.not_le, ne_eq, Decidable.not_not, gt_iff_lt, ge_iff_le] at hlt
    have hlt' : k < 2 := by omega
    have hlog := h2.no hcw
    refine XC_skip rfl ?_
    refine thenX_normal ?_
    refine XC_seq rfl ?_
    refine XC_block (id := 1) rfl ?_
    refine XC_seq rfl ?_
    refine XC_region rfl ?_
    refine o_mv (.int _ _) rfl rfl rfl rfl ?_
    refine o_as (.int _ _) rfl rfl rfl rfl ?_
    refine XO_end rfl ?_
    refine thenX_normal ?_
    refine XC_seq rfl ?_
    refine XC_region rfl ?_
    refine o_mv (.pointer _) rfl rfl rfl rfl ?_
    refine o_mv (.int _ _) rfl rfl rfl rfl ?_
    refine XO_stepd rfl rfl rfl rfl (m_call Try.call66 (Read_ok (i := k) hlog.pl (by omega)) rfl ?_)
    rintro _ w3 ⟨a3, c3, rfl, ho3, hc3, hl3, hok3⟩
    refine o_mv (.tuple _) rfl rfl rfl rfl ?_
    refine o_ext (.slice _ _ _) rfl rfl rfl rfl rfl ?_
    refine o_ext (.int _ _) rfl rfl rfl rfl rfl ?_
    refine o_as (.slice _ _ _) rfl rfl rfl rfl ?_
    refine o_as (.int _ _) rfl rfl rfl rfl ?_
    refine XO_end rfl ?_
    refine thenX_normal ?_
    refine XC_seq rfl ?_
    refine XC_seq rfl ?_
    refine XC_region rfl ?_
    refine o_mv (.int _ _) rfl rfl rfl rfl ?_
    refine o_neq rfl rfl rfl rfl rfl ?_
    refine XO_end rfl ?_
    refine thenX_normal ?_
    refine XC_cond_false rfl rfl ?_
    have hc64 : 64 ≤ c3 := own_cap ho3 (by omega)
    have hq3 : At w3 w.heap.size (.cells (walK p (S.all.length - 2) 0 0 0 0 0 0) 104 (0, 0)) := hlog.wa.keep hc3 (fun x => x)
    refine XC_skip rfl ?_
    refine thenX_normal ?_
    refine XC_seq rfl ?_
    refine XC_region rfl ?_
    refine o_mv (.slice _ _ _) rfl rfl rfl rfl ?_
    refine o_mv (.int _ _) rfl rfl rfl rfl ?_
    refine o_mv (.pointer _) rfl rfl rfl rfl ?_
    refine o_nilc rfl rfl rfl rfl ?_
    refine o_fa0 1 rfl rfl rfl Try.underlying104 rfl Try.sizeOf3 rfl rfl rfl ?_
    refine o_ldB (.int _ _) rfl rfl rfl Try.isAgg3 rfl (by assumption) rfl ?_
    refine XO_stepd rfl rfl rfl rfl (m_call Try.call67 (parse_ok (size := S.all.length - 2) (Row.of_own ho3) hok3 hc64 (by omega) (by omega)) rfl ?_)
    rintro _ w4 ⟨h0, h1, hp2, hp3, ok, rfl, hc4, hiff, _⟩
    have hf : ok = false := by cases ok with | false => rfl | true => exact absurd (hiff.1 rfl) (by rw [hz k (by omega)]; exact okHead_noughts)
    subst hf
    refine o_mv (.tuple _) rfl rfl rfl rfl ?_
    refine o_ext (.agg _) rfl rfl rfl rfl rfl ?_
    refine o_ext (.bool _) rfl rfl rfl rfl rfl ?_
    refine XO_stepd rfl rfl rfl rfl (m_alloc [.int _ _, .int _ _, .int _ _, .int _ _] Try.zeroValue102 rfl ?_)
    intro w5 hc5 hs5 hB5
    refine XO_stepn rfl rfl rfl (m_stA [.int _ _, .int _ _, .int _ _, .int _ _] Try.sizeOf102 rfl rfl rfl (by simp [Value.oneCell']) (by assumption) (by simp) ?_)
    intro w6 hc6 hs6 hB6
    have hcw6 : Chg No w2 w6 := (((hcw.trans hc3).trans hc4).trans hc5).then hc6 (fun _ _ h => h) (fun i hi e => by have := (((hcw.trans hc3).trans hc4)).size; omega)
    refine o_as (.bool _) rfl rfl rfl rfl ?_
    refine XO_end rfl ?_
    refine thenX_normal ?_
    refine XC_seq rfl ?_
    refine XC_draw (fun _ => True) Trymixed rfl 11 rfl ?_
    intro w7 hc7 hh7
    have hS := trivial
    refine q_mv (i := 0) (.bool _) rfl rfl rfl (by kernel_rfl) rfl (fun _ => ?_) hS
    refine q_mv (i := 1) (.bool _) rfl rfl rfl (by kernel_rfl) rfl (fun _ => ?_) hS
    refine XH_barred (i := 2) rfl rfl rfl rfl (by kernel_rfl) (fun _ => ?_) hS
    refine XH_barred (i := 3) rfl rfl rfl rfl (by kernel_rfl) (fun _ => ?_) hS
    refine XH_barred (i := 4) rfl rfl rfl rfl (by kernel_rfl) (fun _ => ?_) hS
    refine XH_barred (i := 5) rfl rfl rfl rfl (by kernel_rfl) (fun _ => ?_) hS
    refine XH_barred (i := 6) rfl rfl rfl rfl (by kernel_rfl) (fun _ => ?_) hS
    refine XH_barred (i := 7) rfl rfl rfl rfl (by kernel_rfl) (fun _ => ?_) hS
    refine XH_barred (i := 8) rfl rfl rfl rfl (by kernel_rfl) (fun _ => ?_) hS
    refine XH_barred (i := 9) rfl rfl rfl rfl (by kernel_rfl) (fun _ => ?_) hS
    refine q_pick0 (i := 10) (.bool _) rfl rfl rfl (by kernel_rfl) rfl rfl (fun _ => ?_) hS
    refine XH_done (by kernel_rfl) hS ?_
    refine thenX_normal ?_
    refine XC_cond_false rfl rfl ?_
    refine XC_skip rfl ?_
    refine inBlockX_normal ?_
    refine thenX_normal ?_
    refine XC_region rfl ?_
    refine o_add _ rfl rfl rfl rfl rfl (in64 (by omega) (by omega)) ?_
    refine o_mv (.int _ _) rfl rfl rfl rfl ?_
    refine XO_end rfl ?_
    refine thenX_normal ?_
    exact ⟨2 - (k + 1), [(0, .pointer (some ⟨p, 0, none⟩)), (5, .pointer (some ⟨w.heap.size, 0, none⟩)), (29, .int .i64 ((k : Int) + 1))], by omega, Agrees.cons rfl (Agrees.cons rfl (Agrees.cons rfl (Agrees.nil _))), ⟨k + 1, rfl, by omega, rfl, hcw6.trans hc7⟩⟩
  · try simp only [decide_eq_true_eq, decide_eq_false_iff_not, Int.not_lt, Int.not_le, ne_eq, Decidable.not_not, gt_iff_lt, ge_iff_le] at hlt
    have hlog := h2.no hcw
    have hq : At wr w.heap.size (.cells (walK p (S.all.length - 2) 0 0 0 0 0 0) 104 (0, 0)) := hlog.wa
    refine XC_exit rfl ?_
    refine thenX_exit ?_
    refine thenX_exit ?_
    refine inBlockX_here ?_
    refine thenX_normal ?_
    refine XC_seq rfl ?_
    refine XC_seq rfl ?_
    refine XC_region rfl ?_
    refine o_mv (.pointer _) rfl rfl rfl rfl ?_
    refine o_nilc rfl rfl rfl rfl ?_
    refine o_fa0 2 rfl rfl rfl Try.underlying104 rfl Try.sizeOf102 rfl rfl rfl ?_
    refine o_fa 0 rfl rfl rfl Try.underlying102 rfl Try.sizeOf3 rfl rfl rfl ?_
    refine o_ldB (.int _ _) rfl rfl rfl Try.isAgg3 rfl (by assumption) rfl ?_
    refine o_eql rfl rfl rfl rfl rfl ?_
    refine XO_end rfl ?_
    refine thenX_normal ?_
    refine XC_cond_true rfl rfl ?_
    refine XC_seq rfl ?_
    refine XC_region rfl ?_
    refine o_mv (.pointer _) rfl rfl rfl rfl ?_
    refine XO_stepd rfl rfl rfl rfl (m_call Try.call68 (fresh_ok hlog hz) rfl ?_)
    rintro _ w3 ⟨rfl, γ3, he3, h3⟩
    refine o_ext (.pointer _) rfl rfl rfl rfl rfl ?_
    refine o_ext (.slice _ _ _) rfl rfl rfl rfl rfl ?_
    refine o_ext (.int _ _) rfl rfl rfl rfl rfl ?_
    refine o_as (.pointer _) rfl rfl rfl rfl ?_
    refine o_as (.slice _ _ _) rfl rfl rfl rfl ?_
    refine o_as (.int _ _) rfl rfl rfl rfl ?_
    refine XO_end rfl ?_
    refine thenX_normal ?_
    refine XC_ret rfl ?_
    refine thenX_ret ?_
    refine topX_ret ?_
    refine RetV_of (.tuple #[.pointer _, .slice _ _ _, .int _ _]) rfl ?_
    exact ⟨w.heap.size, γ3, rfl, Nat.le_refl _, ((e2.mono (fun _ x => x.elim)).trans (Ext.ofNo hcw)).trans he3, h3⟩
end
end Go.Proofs.Ytijjnlfmlcbfpaa

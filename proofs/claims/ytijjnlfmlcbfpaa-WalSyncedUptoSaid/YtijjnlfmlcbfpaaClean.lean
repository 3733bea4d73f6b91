/- Noughts into free sectors. -/
import Derived.Test.YtijjnlfmlcbfpaaRec
set_option linter.unusedVariables false
set_option maxRecDepth 4000
namespace Go.Proofs.Ytijjnlfmlcbfpaa
open Go

noncomputable def cleanS (T : WSt) (S : PSt) : Nat → PSt
  | 0 => S
  | j + 1 => @ite PSt ((cleanS T S j).get (secN T (T.used + j)) = noughts) (Classical.propDecidable _) (cleanS T S j) ((cleanS T S j).write (secN T (T.used + j)) noughts)
theorem cleanS_all (T : WSt) (S : PSt) : ∀ j, (cleanS T S j).all = S.all
  | 0 => rfl
  | j + 1 => by
    unfold cleanS
    split
    · exact cleanS_all T S j
    · rw [write_all]; exact cleanS_all T S j

section
variable {γ : Nat → Nat} {c d : Nat} {w : World} {q p : Nat} {T : WSt} {S : PSt}
theorem clean_wal_ok (h : Log γ c d w q p T S) :
    Ret Try.prog 70 #[.pointer (some ⟨q, 0, none⟩)] w fun v w' => v = .int .i64 0 ∧ ∃ γ', Ext γ γ' (· = c) w w' ∧ Log γ' c d w' q p T (cleanS T S (T.size - T.used)).sync := by
  have hsz := h.sz
  have hln := h.pl.len
  have hus := h.used
  have hq0 := h.wa
  refine Ret_of_X 53 Try.func70 rfl Try.ntmps70 rfl rfl ?_
  refine XC_seq rfl ?_
  refine XC_region rfl ?_
  refine o_as (.int _ _) rfl rfl rfl rfl ?_
  refine XO_end rfl ?_
  refine thenX_normal ?_
  refine XC_seq rfl ?_
  refine XC_seq rfl ?_
  refine XC_region rfl ?_
  refine o_mv (.pointer _) rfl rfl rfl rfl ?_
  refine o_nilc rfl rfl rfl rfl ?_
  refine o_fa0 7 rfl rfl rfl Try.underlying104 rfl Try.sizeOf3 rfl rfl rfl ?_
  refine o_ldB (.int _ _) rfl rfl rfl Try.isAgg3 rfl (by assumption) rfl ?_
  refine o_as (.int _ _) rfl rfl rfl rfl ?_
  refine XO_end rfl ?_
  refine thenX_normal ?_
  refine XC_block (id := 0) rfl ?_
  refine XC_loop (fun m l w' => ∃ (j : Nat) (γ' : Nat → Nat), l = [(0, .pointer (some ⟨q, 0, none⟩)), (3, .int .i64 ((T.used + j : Nat) : Int))] ∧ j ≤ T.size - T.used ∧ m = T.size - T.used - j ∧ Ext γ γ' (· = c) w w' ∧ Log γ' c d w' q p T (cleanS T S j)) rfl (T.size - T.used) [(0, .pointer (some ⟨q, 0, none⟩)), (3, .int .i64 (T.used : Int))] ?_ ?_ ?_
  · exact Agrees.cons rfl (Agrees.cons rfl (Agrees.nil _))
  · exact ⟨0, γ, rfl, by omega, rfl, Ext.refl _ _ _, h⟩
  intro m l wr g ⟨j, γr, hl, hj, hm, he, hlog⟩
  subst hl
  have hq : At wr q (.cells (walC p T) 104 (0, 0)) := hlog.wa
  refine XC_seq rfl ?_
  refine XC_seq rfl ?_
  refine XC_region rfl ?_
  refine o_mv (.int _ _) rfl rfl rfl rfl ?_
  refine o_mv (.pointer _) rfl rfl rfl rfl ?_
  refine o_nilc rfl rfl rfl rfl ?_
  refine o_fa0 1 rfl rfl rfl Try.underlying104 rfl Try.sizeOf3 rfl rfl rfl ?_
  refine o_ldB (.int _ _) rfl rfl rfl Try.isAgg3 rfl (by assumption) rfl ?_
  refine o_lss rfl rfl rfl rfl rfl ?_
  refine XO_end rfl ?_
  refine thenX_normal ?_
  refine XC_cond rfl rfl (fun hlt => ?_) (fun hlt => ?_)
  · try simp only [decide_eq_true_eq, decide_eq_false_iff_not, Int.not_lt, Int.not_le, ne_eq, Decidable.not_not, gt_iff_lt, ge_iff_le] at hlt
    have hlt' : j < T.size - T.used := by omega
    refine XC_skip rfl ?_
    refine thenX_normal ?_
    refine XC_seq rfl ?_
    refine XC_block (id := 1) rfl ?_
    refine XC_seq rfl ?_
    refine XC_draw (fun w' => At w' q (.cells (walC p T) 104 (0, 0))) Trymixed rfl 13 rfl ?_
    intro w2 hN hh2
    have hS := hq.keep hN (fun x => x)
    refine q_mv (i := 0) (.pointer _) rfl rfl rfl (by kernel_rfl) rfl (fun _ => ?_) hS
    refine q_nilc (i := 1) rfl rfl rfl (by kernel_rfl) rfl (fun _ => ?_) hS
    refine q_fa0 (i := 2) 0 rfl rfl rfl (by kernel_rfl) Try.underlying104 rfl Try.sizeOf24 rfl rfl rfl (fun _ => ?_) hS
    refine q_ldB (i := 3) (.pointer _) rfl rfl rfl (by kernel_rfl) Try.isAgg24 rfl (fun _ h => h) rfl (fun _ => ?_) hS
    refine q_mv (i := 4) (.pointer _) rfl rfl rfl (by kernel_rfl) rfl (fun _ => ?_) hS
    refine q_mv (i := 5) (.int _ _) rfl rfl rfl (by kernel_rfl) rfl (fun _ => ?_) hS
    refine XH_stepd (i := 6) rfl rfl rfl rfl (by kernel_rfl) hS (m_call Try.call60 (sector_ok (hlog.no hN) (by omega)) rfl ?_)
    rintro _ w3 ⟨rfl, hc3⟩
    replace hS := At.keep hS hc3 (fun x => x)
    replace hN := Chg.trans hN hc3
    refine XH_stepd (i := 7) rfl rfl rfl rfl (by kernel_rfl) hS (m_call Try.call66 (Read_ok (i := secN T (T.used + j)) (hlog.no hN).pl (by rw [hlog.sz]; exact secN_lt h.pos)) rfl ?_)
    rintro _ w4 ⟨a8, k8, rfl, ho8, hc4, hl8, hok8⟩
    replace hS := At.keep hS hc4 (fun x => x)
    replace hN := Chg.trans hN hc4
    have hstep : cleanS T S (j + 1) = @ite PSt ((cleanS T S j).get (secN T (T.used + j)) = noughts) (Classical.propDecidable _) (cleanS T S j) ((cleanS T S j).write (secN T (T.used + j)) noughts) := rfl
    generalize (cleanS T S j).get (secN T (T.used + j)) = bs at ho8 hl8 hok8 hstep
    refine q_mv (i := 8) (.tuple _) rfl rfl rfl (by kernel_rfl) rfl (fun _ => ?_) hS
    refine q_ext (i := 9) (.slice _ _ _) rfl rfl rfl (by kernel_rfl) rfl rfl (fun _ => ?_) hS
    refine q_ext (i := 10) (.int _ _) rfl rfl rfl (by kernel_rfl) rfl rfl (fun _ => ?_) hS
    refine q_as (i := 11) (.slice _ _ _) rfl rfl rfl (by kernel_rfl) rfl (fun _ => ?_) hS
    refine q_as (i := 12) (.int _ _) rfl rfl rfl (by kernel_rfl) rfl (fun _ => ?_) hS
    refine XH_done (by kernel_rfl) hS ?_
    refine thenX_normal ?_
    refine XC_seq rfl ?_
    refine XC_seq rfl ?_
    refine XC_region rfl ?_
    refine o_mv (.int _ _) rfl rfl rfl rfl ?_
    refine o_eql rfl rfl rfl rfl rfl ?_
    refine o_mv (.bool _) rfl rfl rfl rfl ?_
    refine o_mv (.slice _ _ _) rfl rfl rfl rfl ?_
    refine XO_stepd rfl rfl rfl rfl (m_call Try.call104 (nought_ok (Row.of_own ho8) hok8) rfl ?_)
    rintro _ w5 ⟨rfl, hc5⟩
    have hN5 := hN.trans hc5
    have hlog5 := hlog.no hN5
    refine o_not rfl rfl rfl rfl ?_
    refine o_pick1 (.bool _) rfl rfl rfl rfl rfl ?_
    refine XO_end rfl ?_
    refine thenX_normal ?_
    refine XC_cond rfl rfl (fun h35 => ?_) (fun h35 => ?_)
    · try simp only [decide_eq_true_eq, decide_eq_false_iff_not, Int.not_lt, Int.not_le, ne_eq, Decidable.not_not, gt_iff_lt, ge_iff_le] at h35
      have hne : ¬ bs = noughts := by simpa using h35
      rw [if_neg hne] at hstep
      refine XC_draw (fun w' => At w' q (.cells (walC p T) 104 (0, 0))) Trymixed rfl 10 rfl ?_
      intro w6 hN6 hh6
      have hS := hlog5.wa.keep hN6 (fun x => x)
      refine q_mv (i := 0) (.pointer _) rfl rfl rfl (by kernel_rfl) rfl (fun _ => ?_) hS
      refine q_nilc (i := 1) rfl rfl rfl (by kernel_rfl) rfl (fun _ => ?_) hS
      refine q_fa0 (i := 2) 0 rfl rfl rfl (by kernel_rfl) Try.underlying104 rfl Try.sizeOf24 rfl rfl rfl (fun _ => ?_) hS
      refine q_ldB (i := 3) (.pointer _) rfl rfl rfl (by kernel_rfl) Try.isAgg24 rfl (fun _ h => h) rfl (fun _ => ?_) hS
      refine q_mv (i := 4) (.pointer _) rfl rfl rfl (by kernel_rfl) rfl (fun _ => ?_) hS
      refine q_mv (i := 5) (.int _ _) rfl rfl rfl (by kernel_rfl) rfl (fun _ => ?_) hS
      refine XH_some [6, 7] (by kernel_rfl) rfl hS ?_
      intro i hi; simp only [List.mem_cons, List.not_mem_nil, or_false] at hi; rcases hi with rfl | rfl
      · refine XHop_stepd rfl rfl rfl rfl (m_call Try.call60 (sector_ok (hlog5.no hN6) (by omega)) rfl ?_)
        rintro _ w7 ⟨rfl, hc7⟩
        replace hS := At.keep hS hc7 (fun x => x)
        replace hN6 := Chg.trans hN6 hc7
        try replace f43 := At.keep f43 hc7 (fun x => x)
        refine XH_stepd (i := 7) rfl rfl rfl rfl (by kernel_rfl) hS (m_mksl (bytes := 1) (64) (64) Try.underlying28 Try.typeInfo5 rfl rfl rfl rfl rfl rfl (by first | rfl | omega) (by first | rfl | omega) (by omega) (by omega) (by omega) ?_)
        intro w8 hc8 hs8 f43
        replace hS := At.keep hS hc8 (fun x => x)
        replace hN6 := Chg.trans hN6 hc8
        refine XH_stepd (i := 8) rfl rfl rfl rfl (by kernel_rfl) hS (m_call Try.call59 (Write_ok (i := secN T (T.used + j)) (bs := noughts) (hlog5.no hN6).pl h.c0 (by rw [hlog5.sz]; exact secN_lt h.pos) (Row.of_at (o := 0) f43 (by simp [u8s_len, noughts]) (fun j v h => by simpa [u8s, noughts] using h)) noughts_len noughts_ok) rfl ?_)
        rintro _ w9 ⟨rfl, γ9, he9, hp9⟩
        have hlog9 := (hlog5.no hN6).plate he9 hp9 rfl
        replace hS := hlog9.wa
        refine q_as (i := 9) (.int _ _) rfl rfl rfl (by kernel_rfl) rfl (fun _ => ?_) hS
        refine XH_done (by kernel_rfl) hS ?_
        refine thenX_normal ?_
        refine XC_seq rfl ?_
        refine XC_region rfl ?_
        refine o_mv (.int _ _) rfl rfl rfl rfl ?_
        refine o_neq rfl rfl rfl rfl rfl ?_
        refine XO_end rfl ?_
        refine thenX_normal ?_
        refine XC_cond_false rfl rfl ?_
        refine XC_skip rfl ?_
        refine inBlockX_normal ?_
        refine thenX_normal ?_
        refine XC_region rfl ?_
        refine o_mv (.int _ _) rfl rfl rfl rfl ?_
        refine o_add _ rfl rfl rfl rfl rfl (in64 (by omega) (by omega)) ?_
        refine o_as (.int _ _) rfl rfl rfl rfl ?_
        refine XO_end rfl ?_
        refine thenX_normal ?_
        exact ⟨T.size - T.used - (j + 1), [(0, .pointer (some ⟨q, 0, none⟩)), (3, .int .i64 (((T.used + j : Nat) : Int) + 1))], by omega, Agrees.cons rfl (Agrees.cons rfl (Agrees.nil _)), ⟨j + 1, γ9, by rw [show ((T.used + (j + 1) : Nat) : Int) = ((T.used + j : Nat) : Int) + 1 by omega], by omega, rfl, (he.trans (Ext.ofNo (hN5.trans hN6))).trans he9, by rw [hstep]; exact hlog9⟩⟩
      · refine XHop_stepd rfl rfl rfl rfl (m_mksl (bytes := 1) (64) (64) Try.underlying28 Try.typeInfo5 rfl rfl rfl rfl rfl rfl (by first | rfl | omega) (by first | rfl | omega) (by omega) (by omega) (by omega) ?_)
        intro w8 hc8 hs8 f43
        replace hS := At.keep hS hc8 (fun x => x)
        replace hN6 := Chg.trans hN6 hc8
        refine XH_stepd (i := 6) rfl rfl rfl rfl (by kernel_rfl) hS (m_call Try.call60 (sector_ok (hlog5.no hN6) (by omega)) rfl ?_)
        rintro _ w7 ⟨rfl, hc7⟩
        replace hS := At.keep hS hc7 (fun x => x)
        replace hN6 := Chg.trans hN6 hc7
        try replace f43 := At.keep f43 hc7 (fun x => x)
        refine XH_stepd (i := 8) rfl rfl rfl rfl (by kernel_rfl) hS (m_call Try.call59 (Write_ok (i := secN T (T.used + j)) (bs := noughts) (hlog5.no hN6).pl h.c0 (by rw [hlog5.sz]; exact secN_lt h.pos) (Row.of_at (o := 0) f43 (by simp [u8s_len, noughts]) (fun j v h => by simpa [u8s, noughts] using h)) noughts_len noughts_ok) rfl ?_)
        rintro _ w9 ⟨rfl, γ9, he9, hp9⟩
        have hlog9 := (hlog5.no hN6).plate he9 hp9 rfl
        replace hS := hlog9.wa
        refine q_as (i := 9) (.int _ _) rfl rfl rfl (by kernel_rfl) rfl (fun _ => ?_) hS
        refine XH_done (by kernel_rfl) hS ?_
        refine thenX_normal ?_
        refine XC_seq rfl ?_
        refine XC_region rfl ?_
        refine o_mv (.int _ _) rfl rfl rfl rfl ?_
        refine o_neq rfl rfl rfl rfl rfl ?_
        refine XO_end rfl ?_
        refine thenX_normal ?_
        refine XC_cond_false rfl rfl ?_
        refine XC_skip rfl ?_
        refine inBlockX_normal ?_
        refine thenX_normal ?_
        refine XC_region rfl ?_
        refine o_mv (.int _ _) rfl rfl rfl rfl ?_
        refine o_add _ rfl rfl rfl rfl rfl (in64 (by omega) (by omega)) ?_
        refine o_as (.int _ _) rfl rfl rfl rfl ?_
        refine XO_end rfl ?_
        refine thenX_normal ?_
        exact ⟨T.size - T.used - (j + 1), [(0, .pointer (some ⟨q, 0, none⟩)), (3, .int .i64 (((T.used + j : Nat) : Int) + 1))], by omega, Agrees.cons rfl (Agrees.cons rfl (Agrees.nil _)), ⟨j + 1, γ9, by rw [show ((T.used + (j + 1) : Nat) : Int) = ((T.used + j : Nat) : Int) + 1 by omega], by omega, rfl, (he.trans (Ext.ofNo (hN5.trans hN6))).trans he9, by rw [hstep]; exact hlog9⟩⟩
    · try simp only [decide_eq_true_eq, decide_eq_false_iff_not, Int.not_lt, Int.not_le, ne_eq, Decidable.not_not, gt_iff_lt, ge_iff_le] at h35
      have hne : bs = noughts := by simpa using h35
      rw [if_pos hne] at hstep
      refine XC_skip rfl ?_
      refine thenX_normal ?_
      refine XC_seq rfl ?_
      refine XC_region rfl ?_
      refine o_mv (.int _ _) rfl rfl rfl rfl ?_
      refine o_neq rfl rfl rfl rfl rfl ?_
      refine XO_end rfl ?_
      refine thenX_normal ?_
      refine XC_cond_false rfl rfl ?_
      refine XC_skip rfl ?_
      refine inBlockX_normal ?_
      refine thenX_normal ?_
      refine XC_region rfl ?_
      refine o_mv (.int _ _) rfl rfl rfl rfl ?_
      refine o_add _ rfl rfl rfl rfl rfl (in64 (by omega) (by omega)) ?_
      refine o_as (.int _ _) rfl rfl rfl rfl ?_
      refine XO_end rfl ?_
      refine thenX_normal ?_
      exact ⟨T.size - T.used - (j + 1), [(0, .pointer (some ⟨q, 0, none⟩)), (3, .int .i64 (((T.used + j : Nat) : Int) + 1))], by omega, Agrees.cons rfl (Agrees.cons rfl (Agrees.nil _)), ⟨j + 1, γr, by rw [show ((T.used + (j + 1) : Nat) : Int) = ((T.used + j : Nat) : Int) + 1 by omega], by omega, rfl, he.trans (Ext.ofNo hN5), by rw [hstep]; exact hlog5⟩⟩
  · try simp only [decide_eq_true_eq, decide_eq_false_iff_not, Int.not_lt, Int.not_le, ne_eq, Decidable.not_not, gt_iff_lt, ge_iff_le] at hlt
    obtain rfl : j = T.size - T.used := by omega
    refine XC_exit rfl ?_
    refine thenX_exit ?_
    refine thenX_exit ?_
    refine inBlockX_here ?_
    refine thenX_normal ?_
    refine XC_seq rfl ?_
    refine XC_region rfl ?_
    refine o_mv (.pointer _) rfl rfl rfl rfl ?_
    refine o_nilc rfl rfl rfl rfl ?_
    refine o_fa0 0 rfl rfl rfl Try.underlying104 rfl Try.sizeOf24 rfl rfl rfl ?_
    refine o_ldB (.pointer _) rfl rfl rfl Try.isAgg24 rfl (by assumption) rfl ?_
    refine XO_stepd rfl rfl rfl rfl (m_call Try.call62 (Sync_ok hlog.pl h.c0) rfl ?_)
    rintro _ w9 ⟨rfl, γ9, he9, hp9⟩
    refine o_as (.int _ _) rfl rfl rfl rfl ?_
    refine XO_end rfl ?_
    refine thenX_normal ?_
    refine XC_ret rfl ?_
    refine topX_ret ?_
    refine RetV_of (.int _ _) rfl ?_
    exact ⟨rfl, γ9, he.trans he9, hlog.plate he9 hp9 (sync_len _)⟩
end
end Go.Proofs.Ytijjnlfmlcbfpaa

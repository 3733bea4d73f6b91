/- The log's sectors of records. -/
import Derived.Test.YtijjnlfmlcbfpaaWalA
import Derived.Test.YtijjnlfmlcbfpaaArr
set_option linter.unusedVariables false
set_option maxRecDepth 4000
namespace Go.Proofs.Ytijjnlfmlcbfpaa
open Go

def flagI (b : Bool) : Int := if b then 1 else 0
theorem flagI_bd (b : Bool) : 0 ≤ flagI b ∧ flagI b ≤ 1 := by cases b <;> simp [flagI]
def pieceRaw (n : Int) (part : Byt) (first last : Bool) : List Byt := [[114], eightB n, [IntKind.u8.wrap part.length, flagI first, flagI last], part]
def pieceB (n : Int) (part : Byt) (first last : Bool) : Byt := sealedB (pieceRaw n part first last).flatten
theorem pieceRaw_len (n : Int) (part : Byt) (first last : Bool) : (pieceRaw n part first last).flatten.length = 12 + part.length := by simp [pieceRaw, eightB_len]; omega
theorem pieceRaw_ok {n : Int} {part : Byt} {first last : Bool} (h : Okb part) : Okb (pieceRaw n part first last).flatten := by
  intro x hx
  simp only [pieceRaw, List.flatten_cons, List.flatten_nil, List.append_nil, List.mem_append, List.mem_cons, List.not_mem_nil, or_false] at hx
  rcases hx with rfl | hx | (rfl | rfl | rfl) | hx
  · omega
  · exact eightB_ok _ x hx
  · exact wrap_u8 _
  · have := flagI_bd first; omega
  · have := flagI_bd last; omega
  · exact h x hx
theorem pieceB_len {n : Int} {part : Byt} {first last : Bool} (h : part.length ≤ 40) : (pieceB n part first last).length = 64 := sealedB_len (by rw [pieceRaw_len]; omega)
theorem pieceB_ok {n : Int} {part : Byt} {first last : Bool} (h : Okb part) : Okb (pieceB n part first last) := sealedB_ok (pieceRaw_ok h)

theorem piece_ok {w : World} {n : Int} {a : Option Addr} {L c : Nat} {part : Byt} {first last : Bool} (hr : Row w a L (u8s part)) (hL : L ≤ 40) :
    Ret Try.prog 61 #[.int .i64 n, .slice a L c, .bool first, .bool last] w fun v w' => OwnB w.heap.size w' v (pieceB n part first last) ∧ Chg No w w' := by
  have hpl : part.length = L := by have := hr.1; rwa [u8s_len] at this
  refine Ret_of_X 39 Try.func61 rfl Try.ntmps61 rfl rfl ?_
  refine XC_seq rfl ?_
  refine XC_region rfl ?_
  refine o_as (.slice _ _ _) rfl rfl rfl rfl ?_
  refine XO_end rfl ?_
  refine thenX_normal ?_
  refine XC_seq rfl ?_
  refine XC_region rfl ?_
  refine o_buildA [.int _ _, .int _ _] rfl rfl rfl Try.underlying155 Try.sizeOf5 Try.zeroValue155 rfl rfl ?_
  refine XO_stepd rfl rfl rfl rfl (m_alloc [.int _ _, .int _ _] Try.zeroValue155 rfl ?_)
  intro w1 hc1 hs1 hB1
  refine XO_stepn rfl rfl rfl (m_stA [.int _ _, .int _ _] Try.sizeOf155 rfl rfl rfl (by simp [Value.oneCell']) (by assumption) (by simp) ?_)
  intro w2 hc2 hs2 hB2
  refine XO_end rfl ?_
  refine thenX_normal ?_
  have hc02 : Chg No w w2 := hc1.then hc2 (fun _ _ h => h) (fun i hi e => by omega)
  have hs02 : w2.heap.size = w.heap.size + 1 := by omega
  refine XC_seq rfl ?_
  refine XC_seq rfl ?_
  refine XC_region rfl ?_
  refine o_mv (.bool _) rfl rfl rfl rfl ?_
  refine o_mv (.bool _) rfl rfl rfl rfl ?_
  refine o_buildA [.bool _, .bool _] rfl rfl rfl Try.underlying156 Try.sizeOf4 Try.zeroValue156 rfl rfl ?_
  refine o_mv (.int _ _) rfl rfl rfl rfl ?_
  refine XO_end rfl ?_
  refine thenX_normal ?_
  refine XC_block (id := 0) rfl ?_
  refine XC_loop (fun m l w' => ∃ k : Nat, l = [(0, .int .i64 n), (1, .slice a L c), (9, .pointer (some ⟨w.heap.size, 0, none⟩)), (15, .agg #[.bool first, .bool last]), (16, .int .i64 (k : Int))] ∧ k ≤ 2 ∧ m = 2 - k ∧ Chg No w w' ∧ w'.heap.size = w.heap.size + 1 ∧ At w' w.heap.size (.cells #[.int .u8 (flagI (first && decide (1 ≤ k))), .int .u8 (flagI (last && decide (2 ≤ k)))] 155 (0, 0))) rfl (2) [(0, .int .i64 n), (1, .slice a L c), (9, .pointer (some ⟨w.heap.size, 0, none⟩)), (15, .agg #[.bool first, .bool last]), (16, .int .i64 ((0 : Nat) : Int))] ?_ ?_ ?_
  · exact Agrees.cons rfl (Agrees.cons rfl (Agrees.cons rfl (Agrees.cons rfl (Agrees.cons rfl (Agrees.nil _)))))
  · exact ⟨0, rfl, by omega, rfl, hc02, hs02, by simpa [flagI, over] using hB2⟩
  intro m l wr g ⟨k, hl, hk, hm, hcw, hsw, hB⟩
  subst hl
  refine XC_seq rfl ?_
  refine XC_region rfl ?_
  refine o_lss rfl rfl rfl rfl rfl ?_
  refine XO_end rfl ?_
  refine thenX_normal ?_
  refine XC_seq rfl ?_
  refine XC_cond rfl rfl (fun hlt => ?_) (fun hlt => ?_)
  · try simp only [decide_eq_true_eq, decide_eq_false_iff_not, Int.not_lt, Int.not_le, ne_eq, Decidable.not_not, gt_iff_lt, ge_iff_le] at hlt
    have hlt' : k < 2 := by omega
    obtain ⟨on, hon⟩ : ∃ on, (k = 0 ∧ on = first) ∨ (k = 1 ∧ on = last) := by rcases Nat.lt_or_ge k 1 with h | h; exact ⟨first, .inl ⟨by omega, rfl⟩⟩; exact ⟨last, .inr ⟨by omega, rfl⟩⟩
    refine XC_skip rfl ?_
    refine thenX_normal ?_
    refine XC_seq rfl ?_
    refine XC_block (id := 1) rfl ?_
    refine XC_seq rfl ?_
    refine XC_region rfl ?_
    refine o_mv (.int _ _) rfl rfl rfl rfl ?_
    refine o_idx (.bool on) (k) rfl rfl rfl Try.underlying156 Try.isAgg4 Try.sizeOf4 rfl rfl (by first | rfl | omega) (by omega) (by rcases hon with ⟨rfl, rfl⟩ | ⟨rfl, rfl⟩ <;> rfl) ?_
    refine o_as (.int _ _) rfl rfl rfl rfl ?_
    refine o_as (.bool _) rfl rfl rfl rfl ?_
    refine XO_end rfl ?_
    refine thenX_normal ?_
    refine XC_seq rfl ?_
    refine XC_region rfl ?_
    refine o_mv (.bool _) rfl rfl rfl rfl ?_
    refine XO_end rfl ?_
    refine thenX_normal ?_
    refine XC_cond rfl rfl (fun hb => ?_) (fun hb => ?_)
    · try simp only [decide_eq_true_eq, decide_eq_false_iff_not, Int.not_lt, Int.not_le, ne_eq, Decidable.not_not, gt_iff_lt, ge_iff_le] at hb
      refine XC_region rfl ?_
      refine o_mv (.int _ _) rfl rfl rfl rfl ?_
      refine o_iaA (k) rfl rfl rfl Try.underlying155 Try.sizeOf5 rfl rfl (by first | rfl | omega) (by omega) ?_
      refine XO_stepn rfl rfl rfl (m_st (.int _ _) Try.sizeOf5 rfl rfl rfl (by assumption) (by first | decide | (simp; done) | omega | (simp; omega)) ?_)
      intro w3 hc3 hs3 hB3
      refine XO_end rfl ?_
      refine inBlockX_normal ?_
      refine thenX_normal ?_
      refine XC_region rfl ?_
      refine o_add _ rfl rfl rfl rfl rfl (in64 (by omega) (by omega)) ?_
      refine o_mv (.int _ _) rfl rfl rfl rfl ?_
      refine XO_end rfl ?_
      refine thenX_normal ?_
      exact ⟨2 - (k + 1), [(0, .int .i64 n), (1, .slice a L c), (9, .pointer (some ⟨w.heap.size, 0, none⟩)), (15, .agg #[.bool first, .bool last]), (16, .int .i64 ((k : Int) + 1))], by omega, Agrees.cons rfl (Agrees.cons rfl (Agrees.cons rfl (Agrees.cons rfl (Agrees.cons rfl (Agrees.nil _))))), ⟨k + 1, rfl, by omega, rfl, hcw.then hc3 (fun _ _ h => h) (fun i hi e => by omega), by omega, by subst hb; rcases hon with ⟨rfl, rfl⟩ | ⟨rfl, rfl⟩ <;> simpa [flagI] using hB3⟩⟩
    · try simp only [decide_eq_true_eq, decide_eq_false_iff_not, Int.not_lt, Int.not_le, ne_eq, Decidable.not_not, gt_iff_lt, ge_iff_le] at hb
      refine XC_skip rfl ?_
      refine inBlockX_normal ?_
      refine thenX_normal ?_
      refine XC_region rfl ?_
      refine o_add _ rfl rfl rfl rfl rfl (in64 (by omega) (by omega)) ?_
      refine o_mv (.int _ _) rfl rfl rfl rfl ?_
      refine XO_end rfl ?_
      refine thenX_normal ?_
      exact ⟨2 - (k + 1), [(0, .int .i64 n), (1, .slice a L c), (9, .pointer (some ⟨w.heap.size, 0, none⟩)), (15, .agg #[.bool first, .bool last]), (16, .int .i64 ((k : Int) + 1))], by omega, Agrees.cons rfl (Agrees.cons rfl (Agrees.cons rfl (Agrees.cons rfl (Agrees.cons rfl (Agrees.nil _))))), ⟨k + 1, rfl, by omega, rfl, hcw, by omega, by subst hb; rcases hon with ⟨rfl, rfl⟩ | ⟨rfl, rfl⟩ <;> simpa [flagI] using hB⟩⟩
  · try simp only [decide_eq_true_eq, decide_eq_false_iff_not, Int.not_lt, Int.not_le, ne_eq, Decidable.not_not, gt_iff_lt, ge_iff_le] at hlt
    obtain rfl : k = 2 := by omega
    simp only [show decide (1 ≤ 2) = true from rfl, show decide (2 ≤ 2) = true from rfl, Bool.and_true] at hB
    refine XC_exit rfl ?_
    refine thenX_exit ?_
    refine thenX_exit ?_
    refine inBlockX_here ?_
    refine thenX_normal ?_
    refine XC_seq rfl ?_
    refine XC_draw (fun w' => Chg No wr w') Trymixed rfl 16 rfl ?_
    intro w2' hc2' hh2
    have hS := hc2'
    refine q_mv (i := 1) (.int _ _) rfl rfl rfl (by kernel_rfl) rfl (fun _ => ?_) hS
    refine q_mv (i := 3) (.slice _ _ _) rfl rfl rfl (by kernel_rfl) rfl (fun _ => ?_) hS
    refine q_len (i := 4) rfl rfl rfl (by kernel_rfl) Try.underlying28 rfl (fun _ => ?_) hS
    refine q_cvi (i := 5) (_) rfl rfl rfl (by kernel_rfl) Try.underlying5 (by rw [Try.underlying3]; rfl) rfl rfl (fun _ => ?_) hS
    refine q_iaA (i := 6) (0) rfl rfl rfl (by kernel_rfl) Try.underlying155 Try.sizeOf5 rfl rfl (by first | rfl | omega) (by omega) (fun _ => ?_) hS
    refine q_ld (i := 7) (.int _ _) rfl rfl rfl (by kernel_rfl) Try.isAgg5 rfl (fun _ h => by rw [(hB.keep h (fun x => x)).cell]; rfl) (fun _ => ?_) hS
    refine q_iaA (i := 8) (1) rfl rfl rfl (by kernel_rfl) Try.underlying155 Try.sizeOf5 rfl rfl (by first | rfl | omega) (by omega) (fun _ => ?_) hS
    refine q_ld (i := 9) (.int _ _) rfl rfl rfl (by kernel_rfl) Try.isAgg5 rfl (fun _ h => by rw [(hB.keep h (fun x => x)).cell]; rfl) (fun _ => ?_) hS
    refine q_mv (i := 11) (.slice _ _ _) rfl rfl rfl (by kernel_rfl) rfl (fun _ => ?_) hS
    refine XH_some [0, 2, 10] (by kernel_rfl) rfl hS ?_
    intro i hi; simp only [List.mem_cons, List.not_mem_nil, or_false] at hi; rcases hi with rfl | rfl | rfl
    · refine XHop_stepd rfl rfl rfl rfl (m_bsl [.int _ _] Try.underlying28 Try.sizeOf5 Try.zeroValue5 rfl rfl rfl rfl (by simp [Value.oneCell']) ?_)
      intro wa hca hsa hBa
      replace hS := Chg.trans hS hca
      have f24 : SlB wa (.slice (some ⟨_, 0, none⟩) 1 1) [114] := ⟨_, _, rfl, Row.of_cells (xs := u8s [114]) hBa rfl⟩
      try replace f26 := SlB.keepNo f26 hca
      try replace f34 := SlB.keepNo f34 hca
      refine XH_some [2, 10] (by kernel_rfl) rfl hS ?_
      intro i hi; simp only [List.mem_cons, List.not_mem_nil, or_false] at hi; rcases hi with rfl | rfl
      · refine XHop_stepd rfl rfl rfl rfl (m_call Try.call101 (eight_ok) rfl ?_)
        rintro _ wb ⟨a6, c6, rfl, ho6, hcb⟩
        replace hS := Chg.trans hS hcb
        have f26 : SlB wb (.slice a6 8 c6) (eightB n) := ⟨_, _, by rw [eightB_len], by rw [eightB_len]; exact Row.of_own ho6⟩
        try replace f24 := SlB.keepNo f24 hcb
        try replace f34 := SlB.keepNo f34 hcb
        refine XH_stepd (i := 10) rfl rfl rfl rfl (by kernel_rfl) hS (m_bsl [.int _ _, .int _ _, .int _ _] Try.underlying28 Try.sizeOf5 Try.zeroValue5 rfl rfl rfl rfl (by simp [Value.oneCell']) ?_)
        intro wc hcc hsc hBc
        replace hS := Chg.trans hS hcc
        have f34 : SlB wc (.slice (some ⟨_, 0, none⟩) 3 3) [IntKind.u8.wrap L, flagI first, flagI last] := ⟨_, _, rfl, Row.of_cells (xs := u8s [IntKind.u8.wrap L, flagI first, flagI last]) hBc rfl⟩
        try replace f24 := SlB.keepNo f24 hcc
        try replace f26 := SlB.keepNo f26 hcc
        refine XH_stepd (i := 12) rfl rfl rfl rfl (by kernel_rfl) hS (m_bsl [.slice _ _ _, .slice _ _ _, .slice _ _ _, .slice _ _ _] Try.underlying22 Try.sizeOf28 Try.zeroValue28 rfl rfl rfl rfl (by simp [Value.oneCell']) ?_)
        intro wd hcd hsd hBd
        replace hS := Chg.trans hS hcd
        have hrow := Row.of_cells (l := 4) hBd rfl
        have f35 : SlB wd (.slice a L c) part := ⟨a, c, by rw [hpl], by rw [hpl]; exact hr.keepNo (hcw.trans hS)⟩
        refine XH_stepd (i := 13) rfl rfl rfl rfl (by kernel_rfl) hS (m_call Try.call64 (Concat_ok (bss := pieceRaw n part first last) hrow rfl (slb_cons (f24.keepNo hcd) (slb_cons (f26.keepNo hcd) (slb_cons (by rw [hpl]; exact f34.keepNo hcd) (slb_cons f35 slb_nil)))) (by omega) (by rw [pieceRaw_len]; omega)) rfl ?_)
        rintro _ we ⟨a17, c17, rfl, ho17, hce, hn17⟩
        replace hS := Chg.trans hS hce
        have hge : w.heap.size ≤ we.heap.size := Nat.le_trans hcw.size (Chg.size hS)
        refine XH_stepd (i := 14) rfl rfl rfl rfl (by kernel_rfl) hS (m_call Try.call100 (sealed_ok (bs := (pieceRaw n part first last).flatten) (Row.of_own ho17) (by rw [pieceRaw_len]; omega)) rfl ?_)
        rintro _ wf ⟨⟨a18, c18, rfl, ho18⟩, hcf⟩
        replace hS := Chg.trans hS hcf
        refine q_as (i := 15) (.slice _ _ _) rfl rfl rfl (by kernel_rfl) rfl (fun _ => ?_) hS
        refine XH_done (by kernel_rfl) hS ?_
        refine thenX_normal ?_
        refine XC_ret rfl ?_
        refine topX_ret ?_
        refine RetV_of (.slice _ _ _) rfl ?_
        exact ⟨OwnB.lower ⟨_, _, rfl, ho18⟩ hge, hcw.trans hS⟩
      · refine XHop_stepd rfl rfl rfl rfl (m_bsl [.int _ _, .int _ _, .int _ _] Try.underlying28 Try.sizeOf5 Try.zeroValue5 rfl rfl rfl rfl (by simp [Value.oneCell']) ?_)
        intro wc hcc hsc hBc
        replace hS := Chg.trans hS hcc
        have f34 : SlB wc (.slice (some ⟨_, 0, none⟩) 3 3) [IntKind.u8.wrap L, flagI first, flagI last] := ⟨_, _, rfl, Row.of_cells (xs := u8s [IntKind.u8.wrap L, flagI first, flagI last]) hBc rfl⟩
        try replace f24 := SlB.keepNo f24 hcc
        try replace f26 := SlB.keepNo f26 hcc
        refine XH_stepd (i := 2) rfl rfl rfl rfl (by kernel_rfl) hS (m_call Try.call101 (eight_ok) rfl ?_)
        rintro _ wb ⟨a6, c6, rfl, ho6, hcb⟩
        replace hS := Chg.trans hS hcb
        have f26 : SlB wb (.slice a6 8 c6) (eightB n) := ⟨_, _, by rw [eightB_len], by rw [eightB_len]; exact Row.of_own ho6⟩
        try replace f24 := SlB.keepNo f24 hcb
        try replace f34 := SlB.keepNo f34 hcb
        refine XH_stepd (i := 12) rfl rfl rfl rfl (by kernel_rfl) hS (m_bsl [.slice _ _ _, .slice _ _ _, .slice _ _ _, .slice _ _ _] Try.underlying22 Try.sizeOf28 Try.zeroValue28 rfl rfl rfl rfl (by simp [Value.oneCell']) ?_)
        intro wd hcd hsd hBd
        replace hS := Chg.trans hS hcd
        have hrow := Row.of_cells (l := 4) hBd rfl
        have f35 : SlB wd (.slice a L c) part := ⟨a, c, by rw [hpl], by rw [hpl]; exact hr.keepNo (hcw.trans hS)⟩
        refine XH_stepd (i := 13) rfl rfl rfl rfl (by kernel_rfl) hS (m_call Try.call64 (Concat_ok (bss := pieceRaw n part first last) hrow rfl (slb_cons (f24.keepNo hcd) (slb_cons (f26.keepNo hcd) (slb_cons (by rw [hpl]; exact f34.keepNo hcd) (slb_cons f35 slb_nil)))) (by omega) (by rw [pieceRaw_len]; omega)) rfl ?_)
        rintro _ we ⟨a17, c17, rfl, ho17, hce, hn17⟩
        replace hS := Chg.trans hS hce
        have hge : w.heap.size ≤ we.heap.size := Nat.le_trans hcw.size (Chg.size hS)
        refine XH_stepd (i := 14) rfl rfl rfl rfl (by kernel_rfl) hS (m_call Try.call100 (sealed_ok (bs := (pieceRaw n part first last).flatten) (Row.of_own ho17) (by rw [pieceRaw_len]; omega)) rfl ?_)
        rintro _ wf ⟨⟨a18, c18, rfl, ho18⟩, hcf⟩
        replace hS := Chg.trans hS hcf
        refine q_as (i := 15) (.slice _ _ _) rfl rfl rfl (by kernel_rfl) rfl (fun _ => ?_) hS
        refine XH_done (by kernel_rfl) hS ?_
        refine thenX_normal ?_
        refine XC_ret rfl ?_
        refine topX_ret ?_
        refine RetV_of (.slice _ _ _) rfl ?_
        exact ⟨OwnB.lower ⟨_, _, rfl, ho18⟩ hge, hcw.trans hS⟩
    · refine XHop_stepd rfl rfl rfl rfl (m_call Try.call101 (eight_ok) rfl ?_)
      rintro _ wb ⟨a6, c6, rfl, ho6, hcb⟩
      replace hS := Chg.trans hS hcb
      have f26 : SlB wb (.slice a6 8 c6) (eightB n) := ⟨_, _, by rw [eightB_len], by rw [eightB_len]; exact Row.of_own ho6⟩
      try replace f24 := SlB.keepNo f24 hcb
      try replace f34 := SlB.keepNo f34 hcb
      refine XH_some [0, 10] (by kernel_rfl) rfl hS ?_
      intro i hi; simp only [List.mem_cons, List.not_mem_nil, or_false] at hi; rcases hi with rfl | rfl
      · refine XHop_stepd rfl rfl rfl rfl (m_bsl [.int _ _] Try.underlying28 Try.sizeOf5 Try.zeroValue5 rfl rfl rfl rfl (by simp [Value.oneCell']) ?_)
        intro wa hca hsa hBa
        replace hS := Chg.trans hS hca
        have f24 : SlB wa (.slice (some ⟨_, 0, none⟩) 1 1) [114] := ⟨_, _, rfl, Row.of_cells (xs := u8s [114]) hBa rfl⟩
        try replace f26 := SlB.keepNo f26 hca
        try replace f34 := SlB.keepNo f34 hca
        refine XH_stepd (i := 10) rfl rfl rfl rfl (by kernel_rfl) hS (m_bsl [.int _ _, .int _ _, .int _ _] Try.underlying28 Try.sizeOf5 Try.zeroValue5 rfl rfl rfl rfl (by simp [Value.oneCell']) ?_)
        intro wc hcc hsc hBc
        replace hS := Chg.trans hS hcc
        have f34 : SlB wc (.slice (some ⟨_, 0, none⟩) 3 3) [IntKind.u8.wrap L, flagI first, flagI last] := ⟨_, _, rfl, Row.of_cells (xs := u8s [IntKind.u8.wrap L, flagI first, flagI last]) hBc rfl⟩
        try replace f24 := SlB.keepNo f24 hcc
        try replace f26 := SlB.keepNo f26 hcc
        refine XH_stepd (i := 12) rfl rfl rfl rfl (by kernel_rfl) hS (m_bsl [.slice _ _ _, .slice _ _ _, .slice _ _ _, .slice _ _ _] Try.underlying22 Try.sizeOf28 Try.zeroValue28 rfl rfl rfl rfl (by simp [Value.oneCell']) ?_)
        intro wd hcd hsd hBd
        replace hS := Chg.trans hS hcd
        have hrow := Row.of_cells (l := 4) hBd rfl
        have f35 : SlB wd (.slice a L c) part := ⟨a, c, by rw [hpl], by rw [hpl]; exact hr.keepNo (hcw.trans hS)⟩
        refine XH_stepd (i := 13) rfl rfl rfl rfl (by kernel_rfl) hS (m_call Try.call64 (Concat_ok (bss := pieceRaw n part first last) hrow rfl (slb_cons (f24.keepNo hcd) (slb_cons (f26.keepNo hcd) (slb_cons (by rw [hpl]; exact f34.keepNo hcd) (slb_cons f35 slb_nil)))) (by omega) (by rw [pieceRaw_len]; omega)) rfl ?_)
        rintro _ we ⟨a17, c17, rfl, ho17, hce, hn17⟩
        replace hS := Chg.trans hS hce
        have hge : w.heap.size ≤ we.heap.size := Nat.le_trans hcw.size (Chg.size hS)
        refine XH_stepd (i := 14) rfl rfl rfl rfl (by kernel_rfl) hS (m_call Try.call100 (sealed_ok (bs := (pieceRaw n part first last).flatten) (Row.of_own ho17) (by rw [pieceRaw_len]; omega)) rfl ?_)
        rintro _ wf ⟨⟨a18, c18, rfl, ho18⟩, hcf⟩
        replace hS := Chg.trans hS hcf
        refine q_as (i := 15) (.slice _ _ _) rfl rfl rfl (by kernel_rfl) rfl (fun _ => ?_) hS
        refine XH_done (by kernel_rfl) hS ?_
        refine thenX_normal ?_
        refine XC_ret rfl ?_
        refine topX_ret ?_
        refine RetV_of (.slice _ _ _) rfl ?_
        exact ⟨OwnB.lower ⟨_, _, rfl, ho18⟩ hge, hcw.trans hS⟩
      · refine XHop_stepd rfl rfl rfl rfl (m_bsl [.int _ _, .int _ _, .int _ _] Try.underlying28 Try.sizeOf5 Try.zeroValue5 rfl rfl rfl rfl (by simp [Value.oneCell']) ?_)
        intro wc hcc hsc hBc
        replace hS := Chg.trans hS hcc
        have f34 : SlB wc (.slice (some ⟨_, 0, none⟩) 3 3) [IntKind.u8.wrap L, flagI first, flagI last] := ⟨_, _, rfl, Row.of_cells (xs := u8s [IntKind.u8.wrap L, flagI first, flagI last]) hBc rfl⟩
        try replace f24 := SlB.keepNo f24 hcc
        try replace f26 := SlB.keepNo f26 hcc
        refine XH_stepd (i := 0) rfl rfl rfl rfl (by kernel_rfl) hS (m_bsl [.int _ _] Try.underlying28 Try.sizeOf5 Try.zeroValue5 rfl rfl rfl rfl (by simp [Value.oneCell']) ?_)
        intro wa hca hsa hBa
        replace hS := Chg.trans hS hca
        have f24 : SlB wa (.slice (some ⟨_, 0, none⟩) 1 1) [114] := ⟨_, _, rfl, Row.of_cells (xs := u8s [114]) hBa rfl⟩
        try replace f26 := SlB.keepNo f26 hca
        try replace f34 := SlB.keepNo f34 hca
        refine XH_stepd (i := 12) rfl rfl rfl rfl (by kernel_rfl) hS (m_bsl [.slice _ _ _, .slice _ _ _, .slice _ _ _, .slice _ _ _] Try.underlying22 Try.sizeOf28 Try.zeroValue28 rfl rfl rfl rfl (by simp [Value.oneCell']) ?_)
        intro wd hcd hsd hBd
        replace hS := Chg.trans hS hcd
        have hrow := Row.of_cells (l := 4) hBd rfl
        have f35 : SlB wd (.slice a L c) part := ⟨a, c, by rw [hpl], by rw [hpl]; exact hr.keepNo (hcw.trans hS)⟩
        refine XH_stepd (i := 13) rfl rfl rfl rfl (by kernel_rfl) hS (m_call Try.call64 (Concat_ok (bss := pieceRaw n part first last) hrow rfl (slb_cons (f24.keepNo hcd) (slb_cons (f26.keepNo hcd) (slb_cons (by rw [hpl]; exact f34.keepNo hcd) (slb_cons f35 slb_nil)))) (by omega) (by rw [pieceRaw_len]; omega)) rfl ?_)
        rintro _ we ⟨a17, c17, rfl, ho17, hce, hn17⟩
        replace hS := Chg.trans hS hce
        have hge : w.heap.size ≤ we.heap.size := Nat.le_trans hcw.size (Chg.size hS)
        refine XH_stepd (i := 14) rfl rfl rfl rfl (by kernel_rfl) hS (m_call Try.call100 (sealed_ok (bs := (pieceRaw n part first last).flatten) (Row.of_own ho17) (by rw [pieceRaw_len]; omega)) rfl ?_)
        rintro _ wf ⟨⟨a18, c18, rfl, ho18⟩, hcf⟩
        replace hS := Chg.trans hS hcf
        refine q_as (i := 15) (.slice _ _ _) rfl rfl rfl (by kernel_rfl) rfl (fun _ => ?_) hS
        refine XH_done (by kernel_rfl) hS ?_
        refine thenX_normal ?_
        refine XC_ret rfl ?_
        refine topX_ret ?_
        refine RetV_of (.slice _ _ _) rfl ?_
        exact ⟨OwnB.lower ⟨_, _, rfl, ho18⟩ hge, hcw.trans hS⟩
    · refine XHop_stepd rfl rfl rfl rfl (m_bsl [.int _ _, .int _ _, .int _ _] Try.underlying28 Try.sizeOf5 Try.zeroValue5 rfl rfl rfl rfl (by simp [Value.oneCell']) ?_)
      intro wc hcc hsc hBc
      replace hS := Chg.trans hS hcc
      have f34 : SlB wc (.slice (some ⟨_, 0, none⟩) 3 3) [IntKind.u8.wrap L, flagI first, flagI last] := ⟨_, _, rfl, Row.of_cells (xs := u8s [IntKind.u8.wrap L, flagI first, flagI last]) hBc rfl⟩
      try replace f24 := SlB.keepNo f24 hcc
      try replace f26 := SlB.keepNo f26 hcc
      refine XH_some [0, 2] (by kernel_rfl) rfl hS ?_
      intro i hi; simp only [List.mem_cons, List.not_mem_nil, or_false] at hi; rcases hi with rfl | rfl
      · refine XHop_stepd rfl rfl rfl rfl (m_bsl [.int _ _] Try.underlying28 Try.sizeOf5 Try.zeroValue5 rfl rfl rfl rfl (by simp [Value.oneCell']) ?_)
        intro wa hca hsa hBa
        replace hS := Chg.trans hS hca
        have f24 : SlB wa (.slice (some ⟨_, 0, none⟩) 1 1) [114] := ⟨_, _, rfl, Row.of_cells (xs := u8s [114]) hBa rfl⟩
        try replace f26 := SlB.keepNo f26 hca
        try replace f34 := SlB.keepNo f34 hca
        refine XH_stepd (i := 2) rfl rfl rfl rfl (by kernel_rfl) hS (m_call Try.call101 (eight_ok) rfl ?_)
        rintro _ wb ⟨a6, c6, rfl, ho6, hcb⟩
        replace hS := Chg.trans hS hcb
        have f26 : SlB wb (.slice a6 8 c6) (eightB n) := ⟨_, _, by rw [eightB_len], by rw [eightB_len]; exact Row.of_own ho6⟩
        try replace f24 := SlB.keepNo f24 hcb
        try replace f34 := SlB.keepNo f34 hcb
        refine XH_stepd (i := 12) rfl rfl rfl rfl (by kernel_rfl) hS (m_bsl [.slice _ _ _, .slice _ _ _, .slice _ _ _, .slice _ _ _] Try.underlying22 Try.sizeOf28 Try.zeroValue28 rfl rfl rfl rfl (by simp [Value.oneCell']) ?_)
        intro wd hcd hsd hBd
        replace hS := Chg.trans hS hcd
        have hrow := Row.of_cells (l := 4) hBd rfl
        have f35 : SlB wd (.slice a L c) part := ⟨a, c, by rw [hpl], by rw [hpl]; exact hr.keepNo (hcw.trans hS)⟩
        refine XH_stepd (i := 13) rfl rfl rfl rfl (by kernel_rfl) hS (m_call Try.call64 (Concat_ok (bss := pieceRaw n part first last) hrow rfl (slb_cons (f24.keepNo hcd) (slb_cons (f26.keepNo hcd) (slb_cons (by rw [hpl]; exact f34.keepNo hcd) (slb_cons f35 slb_nil)))) (by omega) (by rw [pieceRaw_len]; omega)) rfl ?_)
        rintro _ we ⟨a17, c17, rfl, ho17, hce, hn17⟩
        replace hS := Chg.trans hS hce
        have hge : w.heap.size ≤ we.heap.size := Nat.le_trans hcw.size (Chg.size hS)
        refine XH_stepd (i := 14) rfl rfl rfl rfl (by kernel_rfl) hS (m_call Try.call100 (sealed_ok (bs := (pieceRaw n part first last).flatten) (Row.of_own ho17) (by rw [pieceRaw_len]; omega)) rfl ?_)
        rintro _ wf ⟨⟨a18, c18, rfl, ho18⟩, hcf⟩
        replace hS := Chg.trans hS hcf
        refine q_as (i := 15) (.slice _ _ _) rfl rfl rfl (by kernel_rfl) rfl (fun _ => ?_) hS
        refine XH_done (by kernel_rfl) hS ?_
        refine thenX_normal ?_
        refine XC_ret rfl ?_
        refine topX_ret ?_
        refine RetV_of (.slice _ _ _) rfl ?_
        exact ⟨OwnB.lower ⟨_, _, rfl, ho18⟩ hge, hcw.trans hS⟩
      · refine XHop_stepd rfl rfl rfl rfl (m_call Try.call101 (eight_ok) rfl ?_)
        rintro _ wb ⟨a6, c6, rfl, ho6, hcb⟩
        replace hS := Chg.trans hS hcb
        have f26 : SlB wb (.slice a6 8 c6) (eightB n) := ⟨_, _, by rw [eightB_len], by rw [eightB_len]; exact Row.of_own ho6⟩
        try replace f24 := SlB.keepNo f24 hcb
        try replace f34 := SlB.keepNo f34 hcb
        refine XH_stepd (i := 0) rfl rfl rfl rfl (by kernel_rfl) hS (m_bsl [.int _ _] Try.underlying28 Try.sizeOf5 Try.zeroValue5 rfl rfl rfl rfl (by simp [Value.oneCell']) ?_)
        intro wa hca hsa hBa
        replace hS := Chg.trans hS hca
        have f24 : SlB wa (.slice (some ⟨_, 0, none⟩) 1 1) [114] := ⟨_, _, rfl, Row.of_cells (xs := u8s [114]) hBa rfl⟩
        try replace f26 := SlB.keepNo f26 hca
        try replace f34 := SlB.keepNo f34 hca
        refine XH_stepd (i := 12) rfl rfl rfl rfl (by kernel_rfl) hS (m_bsl [.slice _ _ _, .slice _ _ _, .slice _ _ _, .slice _ _ _] Try.underlying22 Try.sizeOf28 Try.zeroValue28 rfl rfl rfl rfl (by simp [Value.oneCell']) ?_)
        intro wd hcd hsd hBd
        replace hS := Chg.trans hS hcd
        have hrow := Row.of_cells (l := 4) hBd rfl
        have f35 : SlB wd (.slice a L c) part := ⟨a, c, by rw [hpl], by rw [hpl]; exact hr.keepNo (hcw.trans hS)⟩
        refine XH_stepd (i := 13) rfl rfl rfl rfl (by kernel_rfl) hS (m_call Try.call64 (Concat_ok (bss := pieceRaw n part first last) hrow rfl (slb_cons (f24.keepNo hcd) (slb_cons (f26.keepNo hcd) (slb_cons (by rw [hpl]; exact f34.keepNo hcd) (slb_cons f35 slb_nil)))) (by omega) (by rw [pieceRaw_len]; omega)) rfl ?_)
        rintro _ we ⟨a17, c17, rfl, ho17, hce, hn17⟩
        replace hS := Chg.trans hS hce
        have hge : w.heap.size ≤ we.heap.size := Nat.le_trans hcw.size (Chg.size hS)
        refine XH_stepd (i := 14) rfl rfl rfl rfl (by kernel_rfl) hS (m_call Try.call100 (sealed_ok (bs := (pieceRaw n part first last).flatten) (Row.of_own ho17) (by rw [pieceRaw_len]; omega)) rfl ?_)
        rintro _ wf ⟨⟨a18, c18, rfl, ho18⟩, hcf⟩
        replace hS := Chg.trans hS hcf
        refine q_as (i := 15) (.slice _ _ _) rfl rfl rfl (by kernel_rfl) rfl (fun _ => ?_) hS
        refine XH_done (by kernel_rfl) hS ?_
        refine thenX_normal ?_
        refine XC_ret rfl ?_
        refine topX_ret ?_
        refine RetV_of (.slice _ _ _) rfl ?_
        exact ⟨OwnB.lower ⟨_, _, rfl, ho18⟩ hge, hcw.trans hS⟩
end Go.Proofs.Ytijjnlfmlcbfpaa

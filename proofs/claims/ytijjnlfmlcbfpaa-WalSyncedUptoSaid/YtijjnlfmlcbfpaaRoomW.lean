/- The law WalRoom: its walk. -/
import Derived.Test.YtijjnlfmlcbfpaaRoom
set_option linter.unusedVariables false
set_option maxRecDepth 4000
namespace Go.Proofs.Ytijjnlfmlcbfpaa
open Go

theorem lawRoom_ok {w : World} {s : Int} {a : Option Addr} {L c : Nat} {vs : List Value} {bss : List Byt} (hr : Row w a L vs) (hb : ArgBs w vs bss) (hL : L ≤ 1048576) (hB : ∀ b ∈ bss, b.length ≤ 1048576) :
    Ret Try.prog 3 #[.int .i64 s, .slice a L c] w fun v w' => v = .bool true ∧ Chg No w w' := by
  have hbl : bss.length = L := by rw [← hb.1]; exact hr.1
  refine Ret_of_X 92 Try.func3 rfl Try.ntmps3 rfl rfl ?_
  refine XC_seq rfl ?_
  refine XC_region rfl ?_
  refine o_as (.bool _) rfl rfl rfl rfl ?_
  refine XO_end rfl ?_
  refine thenX_normal ?_
  refine XC_seq rfl ?_
  refine XC_region rfl ?_
  refine o_mv (.int _ _) rfl rfl rfl rfl ?_
  refine XO_stepd rfl rfl rfl rfl (m_call Try.call10 (lawFresh_ok) rfl ?_)
  rintro _ w1 ⟨q, p, N, γ1, rfl, hN1, hN2, hNe, he1, hlog1⟩
  refine o_mv (.tuple _) rfl rfl rfl rfl ?_
  refine o_ext (.pointer _) rfl rfl rfl rfl rfl ?_
  refine o_ext (.pointer _) rfl rfl rfl rfl rfl ?_
  refine o_as (.pointer _) rfl rfl rfl rfl ?_
  refine o_as (.pointer _) rfl rfl rfl rfl ?_
  refine XO_end rfl ?_
  refine thenX_normal ?_
  refine XC_seq rfl ?_
  refine XC_seq rfl ?_
  refine XC_region rfl ?_
  refine o_mv (.pointer _) rfl rfl rfl rfl ?_
  refine o_eqp rfl rfl rfl Try.underlying23 rfl rfl ?_
  refine XO_end rfl ?_
  refine thenX_normal ?_
  refine XC_cond_false rfl rfl ?_
  refine XC_skip rfl ?_
  refine thenX_normal ?_
  refine XC_seq rfl ?_
  refine XC_region rfl ?_
  refine o_mv (.pointer _) rfl rfl rfl rfl ?_
  refine XO_stepd rfl rfl rfl rfl (m_call Try.call11 (Sectors_ok hlog1.pl) rfl ?_)
  rintro _ _ ⟨rfl, rfl⟩
  have hal : (begun (blank N) 1 1 0 1).all.length = N := by simp [begun, sync_len, write_all, blank]
  rw [hal]
  refine o_sub _ rfl rfl rfl rfl rfl (in64 (by omega) (by omega)) ?_
  refine o_as (.int _ _) rfl rfl rfl rfl ?_
  refine o_as (.int _ _) rfl rfl rfl rfl ?_
  refine XO_end rfl ?_
  refine thenX_normal ?_
  refine XC_seq rfl ?_
  refine XC_seq rfl ?_
  refine XC_region rfl ?_
  refine o_mv (.slice _ _ _) rfl rfl rfl rfl ?_
  refine o_len rfl rfl rfl Try.underlying22 rfl ?_
  refine o_mv (.int _ _) rfl rfl rfl rfl ?_
  refine XO_end rfl ?_
  refine thenX_normal ?_
  refine XC_block (id := 0) rfl ?_
  refine XC_loop (fun m l w' => ∃ (k : Nat) (room n : Nat) (T : WSt) (S : PSt) (γ' : Nat → Nat), l = [(5, .pointer (some ⟨q, 0, none⟩)), (7, .int .i64 (room : Int)), (8, .int .i64 (n : Int)), (24, .slice a L c), (25, .int .i64 (L : Int)), (26, .int .i64 (k : Int))] ∧ k ≤ L ∧ m = L - k ∧ Ext (fun _ => 0) γ' (fun k => k = 1 ∨ k = 2) w w' ∧ Log γ' 1 2 w' q p T S ∧ room = T.size - T.used ∧ T.size ≤ 45 ∧ n + 1 = T.next ∧ n ≤ T.used) rfl (L) [(5, .pointer (some ⟨q, 0, none⟩)), (7, .int .i64 ((N : Int) - 2)), (8, .int .i64 0), (24, .slice a L c), (25, .int .i64 (L : Int)), (26, .int .i64 0)] ?_ ?_ ?_
  · exact Agrees.cons rfl (Agrees.cons rfl (Agrees.cons rfl (Agrees.cons rfl (Agrees.cons rfl (Agrees.cons rfl (Agrees.nil _))))))
  · exact ⟨0, N - 2, 0, _, _, γ1, by rw [show ((N - 2 : Nat) : Int) = (N : Int) - 2 by omega]; rfl, by omega, rfl, he1, hlog1, by simp [freshW, blank], by simp [freshW, blank]; omega, rfl, by simp⟩
  intro m l wr g ⟨k, room, n, T, S, γr, hl, hk, hm, he, hlog, hroom, hsz, hn, hnu⟩
  subst hl
  refine XC_seq rfl ?_
  refine XC_region rfl ?_
  refine o_lss rfl rfl rfl rfl rfl ?_
  refine XO_end rfl ?_
  refine thenX_normal ?_
  refine XC_seq rfl ?_
  refine XC_cond rfl rfl (fun hlt => ?_) (fun hlt => ?_)
  · try simp only [decide_eq_true_eq, decide_eq_false_iff_not, Int.not_lt, Int.not_le, ne_eq, Decidable.not_not, gt_iff_lt, ge_iff_le] at hlt
    have hlt' : k < L := by omega
    have hus := hlog.used
    have hrr : RowZ γr wr a L vs := RowZ.ext ⟨hr, fun _ _ _ => rfl⟩ he (by omega)
    obtain ⟨bb, o, v, ha, hv, hc⟩ := hrr.1.at_ hlt'
    obtain ⟨bs, hbs⟩ : ∃ bs, bss[k]? = some bs := ⟨_, List.getElem?_eq_getElem (by omega)⟩
    obtain ⟨a2, c2, rfl, hrow2, hc2, hok2⟩ := hb.2 k v bs hv hbs
    have hrow2' : RowZ γr wr a2 bs.length (u8s bs) := RowZ.ext ⟨hrow2, fun _ _ _ => rfl⟩ he (by omega)
    have hbl2 := hB bs (List.mem_of_getElem? hbs)
    have hnd : needN bs.length = (bs.length + 39) / 40 := rfl
    subst ha
    refine XC_skip rfl ?_
    refine thenX_normal ?_
    refine XC_seq rfl ?_
    refine XC_block (id := 1) rfl ?_
    refine XC_seq rfl ?_
    refine XC_region rfl ?_
    refine o_ia (k) rfl rfl rfl Try.underlying22 Try.sizeOf28 rfl rfl (by first | rfl | omega) (by omega) ?_
    refine o_ld (.slice _ _ _) rfl rfl rfl Try.isAgg28 rfl (hc) ?_
    refine o_as (.slice _ _ _) rfl rfl rfl rfl ?_
    refine XO_end rfl ?_
    refine thenX_normal ?_
    refine XC_seq rfl ?_
    refine XC_region rfl ?_
    refine o_mv (.slice _ _ _) rfl rfl rfl rfl ?_
    refine o_len rfl rfl rfl Try.underlying28 rfl ?_
    refine o_add _ rfl rfl rfl rfl rfl (in64 (by omega) (by omega)) ?_
    refine o_quo (((needN bs.length : Nat) : Int)) rfl rfl rfl rfl rfl (by omega) (by rw [show ((bs.length : Int) + 39) = ((bs.length + 39 : Nat) : Int) by omega, show (40 : Int) = ((40 : Nat) : Int) from rfl, ← Int.ofNat_tdiv]; exact in64 (by omega) (by omega)) ?_
    refine o_as (.int _ _) rfl rfl rfl rfl ?_
    refine XO_end rfl ?_
    refine thenX_normal ?_
    refine XC_seq rfl ?_
    refine XC_region rfl ?_
    refine o_mv (.pointer _) rfl rfl rfl rfl ?_
    refine o_mv (.slice _ _ _) rfl rfl rfl rfl ?_
    refine XO_stepd rfl rfl rfl rfl (m_call Try.call12 (Append_ok hlog hrow2' hok2 hc2 (by omega)) rfl ?_)
    rintro _ w3 ⟨kk, ee, T3, S3, γ3, rfl, he3, hlog3, hcase⟩
    have hus3 := hlog3.used
    have he03 := he.trans he3
    refine o_mv (.tuple _) rfl rfl rfl rfl ?_
    refine o_ext (.int _ _) rfl rfl rfl rfl rfl ?_
    refine o_ext (.int _ _) rfl rfl rfl rfl rfl ?_
    refine o_as (.int _ _) rfl rfl rfl rfl ?_
    refine o_as (.int _ _) rfl rfl rfl rfl ?_
    refine XO_end rfl ?_
    refine thenX_normal ?_
    refine XC_cut (fun l w' => ∃ (room2 n2 : Nat), l = [(5, .pointer (some ⟨q, 0, none⟩)), (7, .int .i64 (room2 : Int)), (8, .int .i64 (n2 : Int)), (24, .slice (some ⟨bb, o, none⟩) L c), (25, .int .i64 (L : Int)), (26, .int .i64 (k : Int))] ∧ w3 = w' ∧ room2 = T3.size - T3.used ∧ T3.size ≤ 45 ∧ n2 + 1 = T3.next ∧ n2 ≤ T3.used) rfl ?_ ?_
    · refine XC_block (id := 2) rfl ?_
      refine XC_seq rfl ?_
      refine XC_region rfl ?_
      refine o_mv (.slice _ _ _) rfl rfl rfl rfl ?_
      refine o_len rfl rfl rfl Try.underlying28 rfl ?_
      refine o_eql rfl rfl rfl rfl rfl ?_
      refine o_mv (.bool _) rfl rfl rfl rfl ?_
      refine XO_bool 56 rfl (fun h56 => ?_) (fun h56 => ?_)
      · try simp only [decide_eq_true_eq, decide_eq_false_iff_not, Int.not_lt, Int.not_le, ne_eq, Decidable.not_not, gt_iff_lt, ge_iff_le] at h56
        refine XO_barred rfl rfl rfl rfl ?_
        refine XO_barred rfl rfl rfl rfl ?_
        refine XO_barred rfl rfl rfl rfl ?_
        refine o_pick1 (.bool _) rfl rfl rfl rfl rfl ?_
        refine o_as (.bool _) rfl rfl rfl rfl ?_
        refine XO_end rfl ?_
        refine thenX_normal ?_
        refine XC_cond_true rfl rfl ?_
        refine XC_seq rfl ?_
        refine XC_region rfl ?_
        refine o_mv (.int _ _) rfl rfl rfl rfl ?_
        refine o_neq rfl rfl rfl rfl rfl ?_
        refine o_mv (.bool _) rfl rfl rfl rfl ?_
        refine XO_bool 63 rfl (fun hb => ?_) (fun hb => ?_)
        · exfalso; simp at hb; omega
        refine o_mv (.int _ _) rfl rfl rfl rfl ?_
        refine o_neq rfl rfl rfl rfl rfl ?_
        refine o_pick0 (.bool _) rfl rfl rfl rfl rfl ?_
        refine XO_end rfl ?_
        refine thenX_normal ?_
        refine XC_cond rfl rfl (fun hb => ?_) (fun hb => ?_)
        · exfalso; simp at hb; omega
        refine XC_skip rfl ?_
        refine inBlockX_normal ?_
        refine thenX_normal ?_
        exact ⟨[(5, .pointer (some ⟨q, 0, none⟩)), (7, .int .i64 (room : Int)), (8, .int .i64 (n : Int)), (24, .slice (some ⟨bb, o, none⟩) L c), (25, .int .i64 (L : Int)), (26, .int .i64 (k : Int))], Agrees.cons rfl (Agrees.cons rfl (Agrees.cons rfl (Agrees.cons rfl (Agrees.cons rfl (Agrees.cons rfl (Agrees.nil _)))))), ⟨room, n, rfl, rfl, by omega, by omega, by omega, by omega⟩⟩
      · try simp only [decide_eq_true_eq, decide_eq_false_iff_not, Int.not_lt, Int.not_le, ne_eq, Decidable.not_not, gt_iff_lt, ge_iff_le] at h56
        refine o_mv (.slice _ _ _) rfl rfl rfl rfl ?_
        refine o_len rfl rfl rfl Try.underlying28 rfl ?_
        refine o_gtr rfl rfl rfl rfl rfl ?_
        refine o_pick0 (.bool _) rfl rfl rfl rfl rfl ?_
        refine o_as (.bool _) rfl rfl rfl rfl ?_
        refine XO_end rfl ?_
        refine thenX_normal ?_
        refine XC_cond rfl rfl (fun h52 => ?_) (fun h52 => ?_)
        · try simp only [decide_eq_true_eq, decide_eq_false_iff_not, Int.not_lt, Int.not_le, ne_eq, Decidable.not_not, gt_iff_lt, ge_iff_le] at h52
          refine XC_seq rfl ?_
          refine XC_region rfl ?_
          refine o_mv (.int _ _) rfl rfl rfl rfl ?_
          refine o_neq rfl rfl rfl rfl rfl ?_
          refine o_mv (.bool _) rfl rfl rfl rfl ?_
          refine XO_bool 63 rfl (fun hb => ?_) (fun hb => ?_)
          · exfalso; simp at hb; omega
          refine o_mv (.int _ _) rfl rfl rfl rfl ?_
          refine o_neq rfl rfl rfl rfl rfl ?_
          refine o_pick0 (.bool _) rfl rfl rfl rfl rfl ?_
          refine XO_end rfl ?_
          refine thenX_normal ?_
          refine XC_cond rfl rfl (fun hb => ?_) (fun hb => ?_)
          · exfalso; simp at hb; omega
          refine XC_skip rfl ?_
          refine inBlockX_normal ?_
          refine thenX_normal ?_
          exact ⟨[(5, .pointer (some ⟨q, 0, none⟩)), (7, .int .i64 (room : Int)), (8, .int .i64 (n : Int)), (24, .slice (some ⟨bb, o, none⟩) L c), (25, .int .i64 (L : Int)), (26, .int .i64 (k : Int))], Agrees.cons rfl (Agrees.cons rfl (Agrees.cons rfl (Agrees.cons rfl (Agrees.cons rfl (Agrees.cons rfl (Agrees.nil _)))))), ⟨room, n, rfl, rfl, by omega, by omega, by omega, by omega⟩⟩
        · try simp only [decide_eq_true_eq, decide_eq_false_iff_not, Int.not_lt, Int.not_le, ne_eq, Decidable.not_not, gt_iff_lt, ge_iff_le] at h52
          refine XC_seq rfl ?_
          refine XC_region rfl ?_
          refine o_mv (.int _ _) rfl rfl rfl rfl ?_
          refine o_mv (.int _ _) rfl rfl rfl rfl ?_
          refine o_gtr rfl rfl rfl rfl rfl ?_
          refine o_as (.bool _) rfl rfl rfl rfl ?_
          refine XO_end rfl ?_
          refine thenX_normal ?_
          refine XC_cond rfl rfl (fun h67 => ?_) (fun h67 => ?_)
          · try simp only [decide_eq_true_eq, decide_eq_false_iff_not, Int.not_lt, Int.not_le, ne_eq, Decidable.not_not, gt_iff_lt, ge_iff_le] at h67
            refine XC_seq rfl ?_
            refine XC_region rfl ?_
            refine o_mv (.int _ _) rfl rfl rfl rfl ?_
            refine o_neq rfl rfl rfl rfl rfl ?_
            refine o_mv (.bool _) rfl rfl rfl rfl ?_
            refine XO_bool 73 rfl (fun hb => ?_) (fun hb => ?_)
            · exfalso; simp at hb; omega
            refine o_mv (.int _ _) rfl rfl rfl rfl ?_
            refine o_neq rfl rfl rfl rfl rfl ?_
            refine o_pick0 (.bool _) rfl rfl rfl rfl rfl ?_
            refine XO_end rfl ?_
            refine thenX_normal ?_
            refine XC_cond rfl rfl (fun hb => ?_) (fun hb => ?_)
            · exfalso; simp at hb; omega
            refine XC_skip rfl ?_
            refine inBlockX_normal ?_
            refine thenX_normal ?_
            exact ⟨[(5, .pointer (some ⟨q, 0, none⟩)), (7, .int .i64 (room : Int)), (8, .int .i64 (n : Int)), (24, .slice (some ⟨bb, o, none⟩) L c), (25, .int .i64 (L : Int)), (26, .int .i64 (k : Int))], Agrees.cons rfl (Agrees.cons rfl (Agrees.cons rfl (Agrees.cons rfl (Agrees.cons rfl (Agrees.cons rfl (Agrees.nil _)))))), ⟨room, n, rfl, rfl, by omega, by omega, by omega, by omega⟩⟩
          · try simp only [decide_eq_true_eq, decide_eq_false_iff_not, Int.not_lt, Int.not_le, ne_eq, Decidable.not_not, gt_iff_lt, ge_iff_le] at h67
            refine XC_seq rfl ?_
            refine XC_region rfl ?_
            refine o_mv (.int _ _) rfl rfl rfl rfl ?_
            refine o_mv (.int _ _) rfl rfl rfl rfl ?_
            refine o_sub _ rfl rfl rfl rfl rfl (in64 (by omega) (by omega)) ?_
            refine o_as (.int _ _) rfl rfl rfl rfl ?_
            refine XO_end rfl ?_
            refine thenX_normal ?_
            refine XC_seq rfl ?_
            refine XC_region rfl ?_
            refine o_mv (.int _ _) rfl rfl rfl rfl ?_
            refine o_add _ rfl rfl rfl rfl rfl (in64 (by omega) (by omega)) ?_
            refine o_as (.int _ _) rfl rfl rfl rfl ?_
            refine XO_end rfl ?_
            refine thenX_normal ?_
            refine XC_seq rfl ?_
            refine XC_region rfl ?_
            refine o_mv (.int _ _) rfl rfl rfl rfl ?_
            refine o_neq rfl rfl rfl rfl rfl ?_
            refine o_mv (.bool _) rfl rfl rfl rfl ?_
            refine XO_bool 47 rfl (fun hb => ?_) (fun hb => ?_)
            · exfalso; simp at hb; omega
            refine o_mv (.int _ _) rfl rfl rfl rfl ?_
            refine o_mv (.int _ _) rfl rfl rfl rfl ?_
            refine o_neq rfl rfl rfl rfl rfl ?_
            refine o_pick0 (.bool _) rfl rfl rfl rfl rfl ?_
            refine XO_end rfl ?_
            refine thenX_normal ?_
            refine XC_cond rfl rfl (fun hb => ?_) (fun hb => ?_)
            · exfalso; simp at hb; omega
            refine XC_skip rfl ?_
            refine inBlockX_normal ?_
            refine thenX_normal ?_
            exact ⟨[(5, .pointer (some ⟨q, 0, none⟩)), (7, .int .i64 ((room : Int) - (needN bs.length : Int))), (8, .int .i64 ((n : Int) + 1)), (24, .slice (some ⟨bb, o, none⟩) L c), (25, .int .i64 (L : Int)), (26, .int .i64 (k : Int))], Agrees.cons rfl (Agrees.cons rfl (Agrees.cons rfl (Agrees.cons rfl (Agrees.cons rfl (Agrees.cons rfl (Agrees.nil _)))))), ⟨room - needN bs.length, n + 1, by rw [show ((room - needN bs.length : Nat) : Int) = (room : Int) - (needN bs.length : Int) by omega]; rfl, rfl, by omega, by omega, by omega, by omega⟩⟩
    · intro l w' g ⟨room2, n2, hl, hw, hr2, hsz2, hn2, hnu2⟩
      subst hl; subst hw
      refine XC_seq rfl ?_
      refine XC_region rfl ?_
      refine o_mv (.pointer _) rfl rfl rfl rfl ?_
      refine XO_stepd rfl rfl rfl rfl (m_call Try.call13 (Room_ok hlog3) rfl ?_)
      rintro _ w4 ⟨rfl, hc4⟩
      have hlog4 := hlog3.no hc4
      refine o_mv (.int _ _) rfl rfl rfl rfl ?_
      refine o_neq rfl rfl rfl rfl rfl ?_
      refine o_mv (.bool _) rfl rfl rfl rfl ?_
      refine XO_bool 81 rfl (fun hb => ?_) (fun hb => ?_)
      · exfalso; simp at hb; omega
      refine o_mv (.pointer _) rfl rfl rfl rfl ?_
      refine XO_stepd rfl rfl rfl rfl (m_call Try.call14 (Last_ok hlog4) rfl ?_)
      rintro _ _ ⟨rfl, rfl⟩
      refine o_mv (.int _ _) rfl rfl rfl rfl ?_
      refine o_neq rfl rfl rfl rfl rfl ?_
      refine o_pick0 (.bool _) rfl rfl rfl rfl rfl ?_
      refine XO_end rfl ?_
      refine thenX_normal ?_
      refine XC_cond rfl rfl (fun hb => ?_) (fun hb => ?_)
      · exfalso; simp at hb; omega
      refine XC_skip rfl ?_
      refine inBlockX_normal ?_
      refine thenX_normal ?_
      refine XC_region rfl ?_
      refine o_add _ rfl rfl rfl rfl rfl (in64 (by omega) (by omega)) ?_
      refine o_mv (.int _ _) rfl rfl rfl rfl ?_
      refine XO_end rfl ?_
      refine thenX_normal ?_
      exact ⟨L - (k + 1), [(5, .pointer (some ⟨q, 0, none⟩)), (7, .int .i64 (room2 : Int)), (8, .int .i64 (n2 : Int)), (24, .slice (some ⟨bb, o, none⟩) L c), (25, .int .i64 (L : Int)), (26, .int .i64 ((k : Int) + 1))], by omega, Agrees.cons rfl (Agrees.cons rfl (Agrees.cons rfl (Agrees.cons rfl (Agrees.cons rfl (Agrees.cons rfl (Agrees.nil _)))))), ⟨k + 1, room2, n2, T3, S3, γ3, rfl, by omega, rfl, he03.trans (Ext.ofNo hc4), hlog4, hr2, hsz2, hn2, hnu2⟩⟩
  · try simp only [decide_eq_true_eq, decide_eq_false_iff_not, Int.not_lt, Int.not_le, ne_eq, Decidable.not_not, gt_iff_lt, ge_iff_le] at hlt
    refine XC_exit rfl ?_
    refine thenX_exit ?_
    refine thenX_exit ?_
    refine inBlockX_here ?_
    refine thenX_normal ?_
    refine XC_seq rfl ?_
    refine XC_region rfl ?_
    refine o_mv (.pointer _) rfl rfl rfl rfl ?_
    refine XO_stepd rfl rfl rfl rfl (m_call Try.call13 (Room_ok hlog) rfl ?_)
    rintro _ w4 ⟨rfl, hc4⟩
    refine o_mv (.int _ _) rfl rfl rfl rfl ?_
    refine o_eql rfl rfl rfl rfl rfl ?_
    refine o_as (.bool _) rfl rfl rfl rfl ?_
    refine XO_end rfl ?_
    refine thenX_normal ?_
    refine XC_ret rfl ?_
    refine topX_ret ?_
    refine RetV_of (.bool _) rfl ?_
    exact ⟨by congr 1; simp; omega, (he.trans (Ext.ofNo hc4)).chg.mono (fun _ _ x => by omega)⟩
end Go.Proofs.Ytijjnlfmlcbfpaa

/- The law WalSynced: its walk. -/
import Derived.Test.YtijjnlfmlcbfpaaKept
import Derived.Test.YtijjnlfmlcbfpaaAnewW
set_option linter.unusedVariables false
set_option linter.unusedSimpArgs false
set_option maxRecDepth 4000
namespace Go.Proofs.Ytijjnlfmlcbfpaa
open Go

theorem SlBs.take {w : World} {a : Option Addr} {k m : Nat} {rs : List Byt} (h : SlBs w (.slice a rs.length k) rs) (hm : m ≤ rs.length) : SlBs w (.slice a (rs.take m).length k) (rs.take m) := by
  obtain ⟨a', k', vs, e, hr, hl, hv⟩ := h
  injection e with e1 _ e3; subst e1; subst e3
  have hml : (rs.take m).length = m := by simp; omega
  refine ⟨a, k, vs.take m, rfl, ⟨by rw [hml]; simp; omega, fun j v hj => hr.2 j v ?_⟩, by simp [hl], fun j u b hu hb => hv j u b ?_ ?_⟩
  · rw [List.getElem?_take] at hj; split at hj; exact hj; cases hj
  · rw [List.getElem?_take] at hu; split at hu; exact hu; cases hu
  · rw [List.getElem?_take] at hb; split at hb; exact hb; cases hb

theorem lawSynced_ok {w : World} {s mask torn n : Int} {a : Option Addr} {L c : Nat} {ds : List DoV} (hds : DosAt w a L ds) (hL : L ≤ 1048576) (hB : ∀ d ∈ ds, d.one.length ≤ 1048576) :
    Ret Try.prog 8 #[.int .i64 s, .slice a L c, .int .u64 mask, .int .i64 torn, .int .i64 n] w fun v w' => v = .bool true ∧ Chg No w w' := by
  refine Ret_of_X 116 Try.func8 rfl Try.ntmps8 rfl rfl ?_
  refine XC_seq rfl ?_
  refine XC_region rfl ?_
  refine o_as (.bool _) rfl rfl rfl rfl ?_
  refine XO_end rfl ?_
  refine thenX_normal ?_
  refine XC_seq rfl ?_
  refine XC_region rfl ?_
  refine o_mv (.int _ _) rfl rfl rfl rfl ?_
  refine XO_stepd rfl rfl rfl rfl (m_call Try.call10 (lawFresh_ok) rfl ?_)
  rintro _ w1 ⟨q, p, N0, γ1, rfl, hN1, hN2, hNe, he1, hlog1⟩
  obtain ⟨sz, rfl⟩ : ∃ sz, N0 = sz + 2 := ⟨N0 - 2, by omega⟩
  refine o_mv (.tuple _) rfl rfl rfl rfl ?_
  refine o_ext (.pointer _) rfl rfl rfl rfl rfl ?_
  refine o_ext (.pointer _) rfl rfl rfl rfl rfl ?_
  refine o_as (.pointer _) rfl rfl rfl rfl ?_
  refine o_as (.pointer _) rfl rfl rfl rfl ?_
  refine XO_end rfl ?_
  refine thenX_normal ?_
  refine XC_seq rfl ?_
  refine XC_seq rfl ?_
  refine XC_region rfl ?_
  refine o_mv (.pointer _) rfl rfl rfl rfl ?_
  refine o_eqp rfl rfl rfl Try.underlying23 rfl rfl ?_
  refine XO_end rfl ?_
  refine thenX_normal ?_
  refine XC_cond_false rfl rfl ?_
  refine XC_skip rfl ?_
  refine thenX_normal ?_
  refine XC_seq rfl ?_
  refine XC_region rfl ?_
  refine o_as (.slice _ _ _) rfl rfl rfl rfl ?_
  refine XO_end rfl ?_
  refine thenX_normal ?_
  refine XC_seq rfl ?_
  refine XC_region rfl ?_
  refine o_as (.int _ _) rfl rfl rfl rfl ?_
  refine XO_end rfl ?_
  refine thenX_normal ?_
  refine XC_seq rfl ?_
  refine XC_seq rfl ?_
  refine XC_region rfl ?_
  refine o_mv (.slice _ _ _) rfl rfl rfl rfl ?_
  refine o_len rfl rfl rfl Try.underlying33 rfl ?_
  refine o_mv (.int _ _) rfl rfl rfl rfl ?_
  refine XO_end rfl ?_
  refine thenX_normal ?_
  refine XC_block (id := 0) rfl ?_
  refine XC_loop (fun m l w' => ∃ (i k : Nat) (done : List Byt) (S : PSt) (γ' : Nat → Nat) (a5 : Option Addr) (c5 : Nat), l = [(2, .int .u64 mask), (3, .int .i64 torn), (4, .int .i64 n), (11, .pointer (some ⟨q, 0, none⟩)), (12, .pointer (some ⟨p, 0, none⟩)), (13, .slice a5 done.length c5), (14, .int .i64 (k : Int)), (29, .slice a L c), (30, .int .i64 (L : Int)), (31, .int .i64 (i : Int))] ∧ i ≤ L ∧ m = L - i ∧ Ext (fun _ => 0) γ' (fun k => k = 1 ∨ k = 2 ∨ k = 3) w w' ∧ Log γ' 1 2 w' q p (TF sz done) S ∧ Sy sz S done k ∧ WantAt w w.heap.size γ' w' a5 c5 done) rfl (L) [(2, .int .u64 mask), (3, .int .i64 torn), (4, .int .i64 n), (11, .pointer (some ⟨q, 0, none⟩)), (12, .pointer (some ⟨p, 0, none⟩)), (13, .slice none 0 0), (14, .int .i64 0), (29, .slice a L c), (30, .int .i64 (L : Int)), (31, .int .i64 0)] ?_ ?_ ?_
  · exact Agrees.cons rfl (Agrees.cons rfl (Agrees.cons rfl (Agrees.cons rfl (Agrees.cons rfl (Agrees.cons rfl (Agrees.cons rfl (Agrees.cons rfl (Agrees.cons rfl (Agrees.cons rfl (Agrees.nil _))))))))))
  · exact ⟨0, 0, [], _, γ1, none, 0, rfl, by omega, rfl, he1.mono (fun _ x => by omega), by have e : freshW (blank (sz + 2)) = TF sz [] := (by simp [freshW, TF, blank, needs]); rw [← e]; exact hlog1, sy_fresh (by omega), [], World.ownsRow_nil _ _ _ _, fun k hk => (by obtain ⟨_, h, _⟩ := hk; cases h), fun j u b hu => by simp at hu⟩
  intro m l wr g ⟨i, k, done, S, γr0, a5, c5, hl, hi, hm, he0, hlog0, hsy, hwant0⟩
  subst hl
  have hnx := norm_ext γr0 (fun _ => False) wr
  have hz : ∀ k, wr.heap.size ≤ k → norm γr0 wr k = 0 := fun k hk => norm_new hk
  have he := he0.trans (hnx.mono (fun _ x => False.elim x))
  have hlog := hlog0.ext hnx id id id
  have hwant := hwant0.ext hnx id
  clear he0 hlog0 hwant0
  generalize norm γr0 wr = γr at hnx hz he hlog hwant
  have hdl : done.length ≤ 45 := Nat.le_trans (laid_len hsy.laid) (Nat.le_trans hsy.room hsy.szb.2)
  refine XC_seq rfl ?_
  refine XC_region rfl ?_
  refine o_lss rfl rfl rfl rfl rfl ?_
  refine XO_end rfl ?_
  refine thenX_normal ?_
  refine XC_seq rfl ?_
  refine XC_cond rfl rfl (fun hlt => ?_) (fun hlt => ?_)
  · try simp only [decide_eq_true_eq, decide_eq_false_iff_not, Int.not_lt, Int.not_le, ne_eq, Decidable.not_not, gt_iff_lt, ge_iff_le] at hlt
    have hlt' : i < L := by omega
    obtain ⟨d, hd⟩ : ∃ d, ds[i]? = some d := ⟨_, List.getElem?_eq_getElem (by have := hds.1; omega)⟩
    obtain ⟨bb, o, vr, vrs, rfl, hcells, ⟨ar, cr, rfl, hrr, hcr, hokr⟩, ⟨ars, Ls, cs6, vs6, rfl, _⟩⟩ := hds.2 i d hd
    have hone := hB d (List.mem_of_getElem? hd)
    have hcr' : ∀ (j : Nat) (v : Value), [.int .i64 d.op, .int .i64 d.torn, .int .i64 d.n, .slice ar d.one.length cr, .slice ars Ls cs6, .int .u64 d.mask][j]? = some v → wr.cell? (Addr.add ⟨bb, o + i * 6, none⟩ j) = some v := fun j v hv => by
      have h1 := hcells j v hv
      rw [Addr.add_lit] at h1 ⊢
      exact cell_keep he.chg h1 (by show ¬ ((0 : Nat) = 1 ∨ (0 : Nat) = 2 ∨ (0 : Nat) = 3); omega)
    refine XC_skip rfl ?_
    refine thenX_normal ?_
    refine XC_seq rfl ?_
    refine XC_block (id := 1) rfl ?_
    refine XC_seq rfl ?_
    refine XC_region rfl ?_
    refine o_iaN (i) rfl rfl rfl Try.underlying33 Try.sizeOf36 rfl rfl (by first | rfl | omega) (by omega) ?_
    refine o_ldN ([.int .i64 d.op, .int .i64 d.torn, .int .i64 d.n, .slice ar d.one.length cr, .slice ars Ls cs6, .int .u64 d.mask]) rfl rfl rfl Try.isAgg36 Try.sizeOf36 rfl rfl (hcr') ?_
    refine XO_stepd rfl rfl rfl rfl (m_alloc [.int _ _, .int _ _, .int _ _, .slice _ _ _, .slice _ _ _, .int _ _] Try.zeroValue36 rfl ?_)
    intro w2 hc2 hs2 hB2
    refine XO_stepn rfl rfl rfl (m_stA [.int _ _, .int _ _, .int _ _, .slice _ _ _, .slice _ _ _, .int _ _] Try.sizeOf36 rfl rfl rfl (by simp [Value.oneCell']) (by assumption) (by simp) ?_)
    intro w3 hc3 hs3 hB3
    refine XO_end rfl ?_
    refine thenX_normal ?_
    have hB7 : At w3 wr.heap.size (.cells #[.int .i64 d.op, .int .i64 d.torn, .int .i64 d.n, .slice ar d.one.length cr, .slice ars Ls cs6, .int .u64 d.mask] 36 (0, 0)) := by simpa [over] using hB3
    have hc03 : Chg No wr w3 := hc2.then hc3 (fun _ _ h => h) (fun k hk e => by omega)
    have hs03 := hc03.size
    have hlog3 := hlog.no hc03
    have he3 := he.trans (Ext.ofNo hc03)
    have hwant3 := hwant.ext (Ext.ofNo (C := fun _ => False) hc03) id
    refine XC_seq rfl ?_
    refine XC_seq rfl ?_
    refine XC_region rfl ?_
    refine o_fa0 0 rfl rfl rfl Try.underlying36 rfl Try.sizeOf3 rfl rfl rfl ?_
    refine o_ldB (.int _ _) rfl rfl rfl Try.isAgg3 rfl (by assumption) rfl ?_
    refine o_rem (d.op.tmod 3) rfl rfl rfl rfl rfl (by omega) rfl ?_
    refine o_eql rfl rfl rfl rfl rfl ?_
    refine XO_end rfl ?_
    refine thenX_normal ?_
    refine XC_cond rfl rfl (fun h38 => ?_) (fun h38 => ?_)
    · try simp only [decide_eq_true_eq, decide_eq_false_iff_not, Int.not_lt, Int.not_le, ne_eq, Decidable.not_not, gt_iff_lt, ge_iff_le] at h38
      refine XC_seq rfl ?_
      refine XC_seq rfl ?_
      refine XC_region rfl ?_
      refine o_mv (.pointer _) rfl rfl rfl rfl ?_
      refine XO_stepd rfl rfl rfl rfl (m_call Try.call16 (WSync_ok hlog3) rfl ?_)
      rintro _ w5 ⟨rfl, γ5, he5, hlog5⟩
      refine o_neq rfl rfl rfl rfl rfl ?_
      refine XO_end rfl ?_
      refine thenX_normal ?_
      refine XC_cond_false rfl rfl ?_
      refine XC_skip rfl ?_
      refine thenX_normal ?_
      refine XC_seq rfl ?_
      refine XC_region rfl ?_
      refine o_mv (.slice _ _ _) rfl rfl rfl rfl ?_
      refine o_len rfl rfl rfl Try.underlying22 rfl ?_
      refine o_as (.int _ _) rfl rfl rfl rfl ?_
      refine XO_end rfl ?_
      refine thenX_normal ?_
      refine XC_exit rfl ?_
      refine thenX_exit ?_
      refine inBlockX_here ?_
      refine thenX_normal ?_
      refine XC_region rfl ?_
      refine o_add _ rfl rfl rfl rfl rfl (in64 (by omega) (by omega)) ?_
      refine o_mv (.int _ _) rfl rfl rfl rfl ?_
      refine XO_end rfl ?_
      refine thenX_normal ?_
      exact ⟨L - (i + 1), [(2, .int .u64 mask), (3, .int .i64 torn), (4, .int .i64 n), (11, .pointer (some ⟨q, 0, none⟩)), (12, .pointer (some ⟨p, 0, none⟩)), (13, .slice a5 done.length c5), (14, .int .i64 (done.length : Int)), (29, .slice _ L c), (30, .int .i64 (L : Int)), (31, .int .i64 ((i : Int) + 1))], by omega, Agrees.cons rfl (Agrees.cons rfl (Agrees.cons rfl (Agrees.cons rfl (Agrees.cons rfl (Agrees.cons rfl (Agrees.cons rfl (Agrees.cons rfl (Agrees.cons rfl (Agrees.cons rfl (Agrees.nil _)))))))))), ⟨i + 1, done.length, done, S.sync, γ5, a5, c5, rfl, by omega, rfl, he3.trans (he5.mono (fun _ x => .inl x)), hlog5, sy_sync hsy, hwant3.ext he5 (by omega)⟩⟩
    · try simp only [decide_eq_true_eq, decide_eq_false_iff_not, Int.not_lt, Int.not_le, ne_eq, Decidable.not_not, gt_iff_lt, ge_iff_le] at h38
      have hrr3 : RowZ γr w3 ar d.one.length (u8s d.one) := RowZ.ext ⟨hrr, fun _ _ _ => rfl⟩ he3 (by omega)
      refine XC_skip rfl ?_
      refine thenX_normal ?_
      refine XC_seq rfl ?_
      refine XC_region rfl ?_
      refine o_mv (.pointer _) rfl rfl rfl rfl ?_
      refine o_fa0 3 rfl rfl rfl Try.underlying36 rfl Try.sizeOf28 rfl rfl rfl ?_
      refine o_ldB (.slice _ _ _) rfl rfl rfl Try.isAgg28 rfl (by assumption) rfl ?_
      refine XO_stepd rfl rfl rfl rfl (m_call Try.call15 (Clone_ok hrr3.1 (u8s_one _) (by omega)) rfl ?_)
      rintro _ w4 ⟨a4, c4, rfl, ho4, hc4, hn4⟩
      have hrz4 : RowZ γr w4 a4 d.one.length (u8s d.one) := ⟨Row.of_own ho4, fun k _ hb => hz k (by have := (own_blk ho4 k hb).1; omega)⟩
      have hlog4 := hlog3.no hc4
      have hs4 := hc4.size
      refine XO_stepd rfl rfl rfl rfl (m_call Try.call12 (Append_ok hlog4 hrz4 hokr (own_le ho4) (by omega)) rfl ?_)
      rintro _ w5 ⟨kk, ee, T5, S5, γ5, rfl, he5, hlog5, hcase5⟩
      have hB75 := (hB7.keep hc4 (fun x => x)).keep he5.chg (by rw [hz _ (Nat.le_refl _)]; omega)
      have he35 : Ext (fun _ => 0) γ5 (fun k => k = 1 ∨ k = 2 ∨ k = 3) w w5 := (he3.trans (Ext.ofNo hc4)).trans (he5.mono (fun _ x => by omega))
      have hwant5 := (hwant3.ext (Ext.ofNo (C := fun _ => False) hc4) id).ext he5 (by omega)
      have hbad : ee ≠ 0 → T5 = TF sz done ∧ S5 = S := fun hne => by
        rcases hcase5 with ⟨_, _, _, _, _, _, x1, x2⟩ | ⟨_, _, _, _, _, _, _, x1, x2⟩ | ⟨_, _, _, _, x, _⟩
        · exact ⟨x1, x2⟩
        · exact ⟨x1, x2⟩
        · exact absurd x hne
      refine o_mv (.tuple _) rfl rfl rfl rfl ?_
      refine o_ext (.int _ _) rfl rfl rfl rfl rfl ?_
      refine o_ext (.int _ _) rfl rfl rfl rfl rfl ?_
      refine o_as (.int _ _) rfl rfl rfl rfl ?_
      refine o_as (.int _ _) rfl rfl rfl rfl ?_
      refine XO_end rfl ?_
      refine thenX_normal ?_
      refine XC_seq rfl ?_
      refine XC_seq rfl ?_
      refine XC_region rfl ?_
      refine o_mv (.int _ _) rfl rfl rfl rfl ?_
      refine o_eql rfl rfl rfl rfl rfl ?_
      refine o_mv (.bool _) rfl rfl rfl rfl ?_
      refine XO_bool 54 rfl (fun h54 => ?_) (fun h54 => ?_)
      · try simp only [decide_eq_true_eq, decide_eq_false_iff_not, Int.not_lt, Int.not_le, ne_eq, Decidable.not_not, gt_iff_lt, ge_iff_le] at h54
        refine XO_barred rfl rfl rfl rfl ?_
        refine XO_barred rfl rfl rfl rfl ?_
        refine o_pick1 (.bool _) rfl rfl rfl rfl rfl ?_
        refine XO_end rfl ?_
        refine thenX_normal ?_
        refine XC_cond_true rfl rfl ?_
        obtain ⟨rfl, rfl⟩ := hbad (by omega)
        refine XC_exit rfl ?_
        refine thenX_exit ?_
        refine inBlockX_here ?_
        refine thenX_normal ?_
        refine XC_region rfl ?_
        refine o_add _ rfl rfl rfl rfl rfl (in64 (by omega) (by omega)) ?_
        refine o_mv (.int _ _) rfl rfl rfl rfl ?_
        refine XO_end rfl ?_
        refine thenX_normal ?_
        exact ⟨L - (i + 1), [(2, .int .u64 mask), (3, .int .i64 torn), (4, .int .i64 n), (11, .pointer (some ⟨q, 0, none⟩)), (12, .pointer (some ⟨p, 0, none⟩)), (13, .slice a5 done.length c5), (14, .int .i64 (k : Int)), (29, .slice _ L c), (30, .int .i64 (L : Int)), (31, .int .i64 ((i : Int) + 1))], by omega, Agrees.cons rfl (Agrees.cons rfl (Agrees.cons rfl (Agrees.cons rfl (Agrees.cons rfl (Agrees.cons rfl (Agrees.cons rfl (Agrees.cons rfl (Agrees.cons rfl (Agrees.cons rfl (Agrees.nil _)))))))))), ⟨i + 1, k, done, S5, γ5, a5, c5, rfl, by omega, rfl, he35, hlog5, hsy, hwant5⟩⟩
      · try simp only [decide_eq_true_eq, decide_eq_false_iff_not, Int.not_lt, Int.not_le, ne_eq, Decidable.not_not, gt_iff_lt, ge_iff_le] at h54
        refine o_mv (.int _ _) rfl rfl rfl rfl ?_
        refine o_eql rfl rfl rfl rfl rfl ?_
        refine o_pick0 (.bool _) rfl rfl rfl rfl rfl ?_
        refine XO_end rfl ?_
        refine thenX_normal ?_
        refine XC_cond rfl rfl (fun h57 => ?_) (fun h57 => ?_)
        · try simp only [decide_eq_true_eq, decide_eq_false_iff_not, Int.not_lt, Int.not_le, ne_eq, Decidable.not_not, gt_iff_lt, ge_iff_le] at h57
          obtain ⟨rfl, rfl⟩ := hbad (by omega)
          refine XC_exit rfl ?_
          refine thenX_exit ?_
          refine inBlockX_here ?_
          refine thenX_normal ?_
          refine XC_region rfl ?_
          refine o_add _ rfl rfl rfl rfl rfl (in64 (by omega) (by omega)) ?_
          refine o_mv (.int _ _) rfl rfl rfl rfl ?_
          refine XO_end rfl ?_
          refine thenX_normal ?_
          exact ⟨L - (i + 1), [(2, .int .u64 mask), (3, .int .i64 torn), (4, .int .i64 n), (11, .pointer (some ⟨q, 0, none⟩)), (12, .pointer (some ⟨p, 0, none⟩)), (13, .slice a5 done.length c5), (14, .int .i64 (k : Int)), (29, .slice _ L c), (30, .int .i64 (L : Int)), (31, .int .i64 ((i : Int) + 1))], by omega, Agrees.cons rfl (Agrees.cons rfl (Agrees.cons rfl (Agrees.cons rfl (Agrees.cons rfl (Agrees.cons rfl (Agrees.cons rfl (Agrees.cons rfl (Agrees.cons rfl (Agrees.cons rfl (Agrees.nil _)))))))))), ⟨i + 1, k, done, S5, γ5, a5, c5, rfl, by omega, rfl, he35, hlog5, hsy, hwant5⟩⟩
        · try simp only [decide_eq_true_eq, decide_eq_false_iff_not, Int.not_lt, Int.not_le, ne_eq, Decidable.not_not, gt_iff_lt, ge_iff_le] at h57
          have h3 : (0 < d.one.length ∧ d.one.length ≤ 2000) ∧ needN d.one.length ≤ sz - needs done ∧ T5 = { TF sz done with used := (TF sz done).used + needN d.one.length, next := (TF sz done).next + 1 } ∧ S5 = putRec (TF sz done) S d.one (needN d.one.length) ∧ ee = 0 := by
            rcases hcase5 with ⟨_, _, x, _⟩ | ⟨_, _, _, x, _⟩ | ⟨x1, x2, _, _, x0, _, _, _, x3, x4⟩
            · omega
            · omega
            · exact ⟨x1, x2, x3, x4, x0⟩
          obtain ⟨hl1, hl2, hT5, hS5, rfl⟩ := h3
          have hTF : T5 = TF sz (done ++ [d.one]) := by rw [hT5]; simp [TF, needs_snoc, Nat.add_assoc]
          subst hS5
          rw [hTF] at hlog5
          refine XC_skip rfl ?_
          refine thenX_normal ?_
          refine XC_seq rfl ?_
          refine XC_seq rfl ?_
          refine XC_region rfl ?_
          refine o_mv (.int _ _) rfl rfl rfl rfl ?_
          refine o_neq rfl rfl rfl rfl rfl ?_
          refine XO_end rfl ?_
          refine thenX_normal ?_
          refine XC_cond_false rfl rfl ?_
          obtain ⟨vs5, hown6, hcol6, harg6⟩ := hwant5
          have hs5 := he35.chg.size
          refine XC_skip rfl ?_
          refine thenX_normal ?_
          refine XC_region rfl ?_
          refine o_mv (.slice _ _ _) rfl rfl rfl rfl ?_
          refine o_fa0 3 rfl rfl rfl Try.underlying36 rfl Try.sizeOf28 rfl rfl rfl ?_
          refine o_ldB (.slice _ _ _) rfl rfl rfl Try.isAgg28 rfl (by assumption) rfl ?_
          refine XO_stepd rfl rfl rfl rfl (m_bsl [.slice _ _ _] Try.underlying22 Try.sizeOf28 Try.zeroValue28 rfl rfl rfl rfl (by simp [Value.oneCell']) ?_)
          intro w7 hc7 hs7 hB77
          have hrow7 := Row.of_cells (l := 1) hB77 rfl
          refine XO_stepd rfl rfl rfl rfl (m_app (bytes := 24) Try.underlying22 Try.typeInfo28 rfl rfl rfl rfl rfl rfl (own_keep hown6 hc7 (fun _ _ x => x)) (hrow7) ((by intro u hu; simp at hu; subst hu; rfl)) (by omega) (by omega) (by omega) ?_)
          intro a8 c8 w8 ho8 hc8 hb8 hn8
          have hch8 : Chg (fun k => γ5 k = 3) w5 w8 := hc7.then hc8 (fun _ _ h => h.elim) (fun k _ e => hcol6 k e)
          have e8 : Ext γ5 (recol γ5 w5.heap.size (isBlk a8) 3) (· = 3) w5 w8 := Ext.recol hch8
          have hcol8 : ∀ k, isBlk a8 k → recol γ5 w5.heap.size (isBlk a8) 3 k = 3 := fun k hk => by
            rcases Nat.lt_or_ge k w5.heap.size with hlt | hge
            · rw [recol_old hlt]
              rcases hb8 k hk with h | h
              · exact hcol6 k h
              · omega
            · exact recol_in hge hk
          have hwant8 : WantAt w w.heap.size (recol γ5 w5.heap.size (isBlk a8) 3) w8 a8 c8 (done ++ [d.one]) := by
            have hvl : vs5.length = done.length := hown6.1.trans (Nat.mul_one _)
            refine ⟨vs5 ++ [.slice ar d.one.length cr], by rw [List.length_append]; exact ho8, hcol8, fun j u b hu hb => ?_⟩
            rcases Nat.lt_or_ge j done.length with hj | hj
            · rw [List.getElem?_append_left (by omega)] at hu hb
              exact harg6 j u b hu hb
            · rw [List.getElem?_append_right (by omega)] at hu hb
              have hj0 : j = done.length := by have := (List.getElem?_eq_some_iff.1 hb).1; simp at this; omega
              subst hj0
              rw [hvl, Nat.sub_self] at hu
              rw [Nat.sub_self] at hb
              simp at hu hb; subst hu; subst hb
              exact ⟨ar, cr, rfl, hrr, hcr, hokr⟩
          refine o_as (.slice _ _ _) rfl rfl rfl rfl ?_
          refine XO_end rfl ?_
          refine inBlockX_normal ?_
          refine thenX_normal ?_
          refine XC_region rfl ?_
          refine o_add _ rfl rfl rfl rfl rfl (in64 (by omega) (by omega)) ?_
          refine o_mv (.int _ _) rfl rfl rfl rfl ?_
          refine XO_end rfl ?_
          refine thenX_normal ?_
          exact ⟨L - (i + 1), [(2, .int .u64 mask), (3, .int .i64 torn), (4, .int .i64 n), (11, .pointer (some ⟨q, 0, none⟩)), (12, .pointer (some ⟨p, 0, none⟩)), (13, .slice a8 (done.length + 1) c8), (14, .int .i64 (k : Int)), (29, .slice _ L c), (30, .int .i64 (L : Int)), (31, .int .i64 ((i : Int) + 1))], by omega, Agrees.cons rfl (Agrees.cons rfl (Agrees.cons rfl (Agrees.cons rfl (Agrees.cons rfl (Agrees.cons rfl (Agrees.cons rfl (Agrees.cons rfl (Agrees.cons rfl (Agrees.cons rfl (Agrees.nil _)))))))))), ⟨i + 1, k, done ++ [d.one], _, _, a8, c8, by rw [List.length_append]; rfl, by omega, rfl, he35.trans (e8.mono (fun _ x => .inr (.inr x))), hlog5.ext e8 (by omega) (by omega) (by omega), sy_put hsy hl1.1 hl1.2 hl2, hwant8⟩⟩
  · try simp only [decide_eq_true_eq, decide_eq_false_iff_not, Int.not_lt, Int.not_le, ne_eq, Decidable.not_not, gt_iff_lt, ge_iff_le] at hlt
    refine XC_exit rfl ?_
    refine thenX_exit ?_
    refine thenX_exit ?_
    refine inBlockX_here ?_
    refine thenX_normal ?_
    refine XC_seq rfl ?_
    refine XC_seq rfl ?_
    refine XC_region rfl ?_
    refine o_mv (.pointer _) rfl rfl rfl rfl ?_
    refine o_mv (.pointer _) rfl rfl rfl rfl ?_
    refine XO_stepd rfl rfl rfl rfl (m_call Try.call54 (Dirty_ok hlog.pl) rfl ?_)
    rintro _ w2 ⟨ks, ⟨a2, c2, rfl, ho2, _⟩, hnd, _, hmem, hc2⟩
    have hkl : ks.length ≤ 8192 := pigeon 8192 ks hnd (fun x hx => by have := hlog.pl.rng x ((hmem x).1 hx); have := hlog.pl.len; omega)
    refine o_mv (.int _ _) rfl rfl rfl rfl ?_
    refine XO_stepd rfl rfl rfl rfl (m_call Try.call53 (kept_ok (Row.of_own ho2) (by omega)) rfl ?_)
    rintro _ w3 ⟨ks3, a3, c3, rfl, ho3, hc3, hl3, _⟩
    have hs2 := hc2.size
    have hs3 := hc3.size
    refine o_mv (.int _ _) rfl rfl rfl rfl ?_
    refine o_mv (.int _ _) rfl rfl rfl rfl ?_
    refine XO_stepd rfl rfl rfl rfl (m_call Try.call17 (Crash_ok (ks := ks3) ((hlog.no hc2).no hc3).pl (by omega) ⟨Row.of_own ho3, fun k _ hb => hz k (by have := (own_blk ho3 k hb).1; omega)⟩ (by omega)) rfl ?_)
    rintro _ w12 ⟨rfl, γ12, he12, hp12⟩
    refine o_neq rfl rfl rfl rfl rfl ?_
    refine XO_end rfl ?_
    refine thenX_normal ?_
    refine XC_cond_false rfl rfl ?_
    obtain ⟨hheads, mm, hmm, hkm, hscan⟩ := sy_crash (ks := ks3) (torn := torn) (n := n) hsy
    have hszb := hsy.szb
    refine XC_skip rfl ?_
    refine thenX_normal ?_
    refine XC_seq rfl ?_
    refine XC_region rfl ?_
    refine o_mv (.pointer _) rfl rfl rfl rfl ?_
    refine XO_stepd rfl rfl rfl rfl (m_call Try.call18 (Open_old (d := 2) (T0 := TH sz) (rs0 := done.take mm) hp12 (by unfold crashS; rw [sync_len]; show 6 ≤ S.all.length; rw [hsy.len]; omega) (by omega) (by omega) (by omega) hheads hscan (by show (1 : Nat) ≠ 0; omega) (by show (1 : Nat) < _; omega) (by show (1 : Nat) < _; omega) (by show 1 + sz < _; omega)) rfl ?_)
    rintro _ w13 ⟨q2, γ13, rv, rfl, hq13, he13, hlog13, htx⟩
    obtain ⟨a13, k13, vs13, rfl, htx'⟩ := id htx
    have hml : (done.take mm).length = mm := by simp; omega
    have he013 := (((he.trans (Ext.ofNo hc2)).trans (Ext.ofNo hc3)).trans (he12.mono (C' := fun k => k = 1 ∨ k = 2 ∨ k = 3) (fun _ x => .inl x))).trans (he13.mono (C' := fun k => k = 1 ∨ k = 2 ∨ k = 3) (fun _ x => by omega))
    have hwant13 := (((hwant.ext (Ext.ofNo (C := fun _ => False) hc2) id).ext (Ext.ofNo (C := fun _ => False) hc3) id).ext he12 (by omega)).ext he13 (by omega)
    have hcap : done.length ≤ c5 := by obtain ⟨_, hown, _⟩ := hwant13; exact own_le hown
    refine o_mv (.tuple _) rfl rfl rfl rfl ?_
    refine o_ext (.pointer _) rfl rfl rfl rfl rfl ?_
    refine o_ext (.slice _ _ _) rfl rfl rfl rfl rfl ?_
    refine o_ext (.int _ _) rfl rfl rfl rfl rfl ?_
    refine o_as (.pointer _) rfl rfl rfl rfl ?_
    refine o_as (.slice _ _ _) rfl rfl rfl rfl ?_
    refine o_as (.int _ _) rfl rfl rfl rfl ?_
    refine XO_end rfl ?_
    refine thenX_normal ?_
    refine XC_seq rfl ?_
    refine XC_region rfl ?_
    refine o_mv (.int _ _) rfl rfl rfl rfl ?_
    refine o_eql rfl rfl rfl rfl rfl ?_
    refine o_mv (.bool _) rfl rfl rfl rfl ?_
    refine o_mv (.pointer _) rfl rfl rfl rfl ?_
    refine XO_stepd rfl rfl rfl rfl (m_call Try.call20 (Life_ok hlog13) rfl ?_)
    rintro _ _ ⟨rfl, rfl⟩
    refine o_eql rfl rfl rfl rfl rfl ?_
    refine o_pick1 (.bool _) rfl rfl rfl rfl rfl ?_
    refine o_mv (.bool _) rfl rfl rfl rfl ?_
    refine XO_bool 88 rfl (fun hb => ?_) (fun hb => ?_)
    rotate_left
    · exfalso; simp [TH] at hb
    refine o_mv (.slice _ _ _) rfl rfl rfl rfl ?_
    refine o_len rfl rfl rfl Try.underlying22 rfl ?_
    refine o_mv (.int _ _) rfl rfl rfl rfl ?_
    refine o_geq rfl rfl rfl rfl rfl ?_
    refine o_pick1 (.bool _) rfl rfl rfl rfl rfl ?_
    refine o_mv (.bool _) rfl rfl rfl rfl ?_
    refine XO_bool 94 rfl (fun hb => ?_) (fun hb => ?_)
    rotate_left
    · exfalso; simp at hb <;> omega
    refine o_mv (.slice _ _ _) rfl rfl rfl rfl ?_
    refine o_len rfl rfl rfl Try.underlying22 rfl ?_
    refine o_mv (.slice _ _ _) rfl rfl rfl rfl ?_
    refine o_len rfl rfl rfl Try.underlying22 rfl ?_
    refine o_leq rfl rfl rfl rfl rfl ?_
    refine o_pick1 (.bool _) rfl rfl rfl rfl rfl ?_
    refine o_mv (.bool _) rfl rfl rfl rfl ?_
    refine XO_bool 101 rfl (fun hb => ?_) (fun hb => ?_)
    rotate_left
    · exfalso; simp at hb <;> omega
    refine o_mv (.slice _ _ _) rfl rfl rfl rfl ?_
    refine o_mv (.slice _ _ _) rfl rfl rfl rfl ?_
    refine o_mv (.slice _ _ _) rfl rfl rfl rfl ?_
    refine o_len rfl rfl rfl Try.underlying22 rfl ?_
    refine o_cut (0) ((done.take mm).length) (c5) rfl rfl rfl Try.underlying22 Try.sizeOf28 rfl (fun _ => rfl) rfl ⟨_, _, rfl, by first | rfl | omega, by omega⟩ rfl ?_
    rw [cutAt_zero, Nat.sub_zero, Nat.sub_zero]
    refine XO_stepd rfl rfl rfl rfl (m_call Try.call19 (SameTexts_ok htx.slbs ((hwant13.slbs he013).take hmm) (by omega) (by omega)) rfl ?_)
    rintro _ _ ⟨rfl, rfl⟩
    rw [decide_eq_true (show done.take mm = done.take mm from rfl)]
    refine o_pick1 (.bool _) rfl rfl rfl rfl rfl ?_
    refine o_mv (.bool _) rfl rfl rfl rfl ?_
    refine o_mv (.pointer _) rfl rfl rfl rfl ?_
    refine XO_stepd rfl rfl rfl rfl (m_call Try.call14 (Last_ok hlog13) rfl ?_)
    rintro _ _ ⟨rfl, rfl⟩
    refine o_mv (.slice _ _ _) rfl rfl rfl rfl ?_
    refine o_len rfl rfl rfl Try.underlying22 rfl ?_
    refine o_eql rfl rfl rfl rfl rfl ?_
    refine o_pick1 (.bool _) rfl rfl rfl rfl rfl ?_
    refine o_as (.bool _) rfl rfl rfl rfl ?_
    refine XO_end rfl ?_
    refine thenX_normal ?_
    refine XC_ret rfl ?_
    refine topX_ret ?_
    refine RetV_of (.bool _) rfl ?_
    exact ⟨by congr 1; rw [decide_eq_true_eq]; show ((1 + (done.take mm).length : Nat) : Int) - 1 = _; omega, he013.chg.mono (fun _ _ x => by omega)⟩
end Go.Proofs.Ytijjnlfmlcbfpaa

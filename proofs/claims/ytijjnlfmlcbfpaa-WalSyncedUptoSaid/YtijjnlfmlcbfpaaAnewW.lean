/- The law WalAnew: its walk. -/
import Derived.Test.YtijjnlfmlcbfpaaAnewA
set_option linter.unusedVariables false
set_option maxRecDepth 4000
namespace Go.Proofs.Ytijjnlfmlcbfpaa
open Go

/-- The records that the law waits for: a list of its own. -/
def WantAt (w0 : World) (n : Nat) (γ : Nat → Nat) (w : World) (a : Option Addr) (c : Nat) (want : List Byt) : Prop :=
  ∃ vs, w.ownsRow n 28 1 (.slice a want.length c) want.length vs ∧ (∀ k, isBlk a k → γ k = 3) ∧ ∀ (j : Nat) (u : Value) (b : Byt), vs[j]? = some u → want[j]? = some b → ArgB w0 u b
theorem WantAt.ext {w0 w w' : World} {n c : Nat} {γ γ' : Nat → Nat} {C : Nat → Prop} {a : Option Addr} {want : List Byt} (h : WantAt w0 n γ w a c want) (e : Ext γ γ' C w w') (hc : ¬ C 3) : WantAt w0 n γ' w' a c want :=
  let ⟨vs, h1, h2, h3⟩ := h
  ⟨vs, own_keep h1 e.chg (fun k hk hm => hc (by rw [h2 k (by cases a with | none => simp [Value.ownBlock] at hk | some ad => simp [Value.ownBlock] at hk; exact ⟨ad, rfl, hk⟩)] at hm; exact hm)), fun k hb => (e.col k (own_blk h1 k hb).2).trans (h2 k hb), h3⟩
theorem WantAt.slbs {w0 w : World} {n c : Nat} {γ γ' : Nat → Nat} {a : Option Addr} {want : List Byt} (h : WantAt w0 n γ w a c want) (e : Ext (fun _ => 0) γ' (fun k => k = 1 ∨ k = 2 ∨ k = 3) w0 w) : SlBs w (.slice a want.length c) want :=
  let ⟨vs, h1, h2, h3⟩ := h
  ⟨a, c, vs, rfl, Row.of_own h1, h1.1.trans (Nat.mul_one _), fun j u b hu hb => let ⟨a', c', e1, e2, _, e4⟩ := h3 j u b hu hb; ⟨⟨a', c', e1, (RowZ.ext ⟨e2, fun _ _ _ => rfl⟩ e (by omega)).1⟩, e4⟩⟩

theorem lawAnew_ok {w : World} {a : Option Addr} {L c : Nat} {ds : List DoV} (hds : DosAt w a L ds) (hL : L ≤ 1048576) (hB : ∀ d ∈ ds, d.one.length ≤ 1048576) :
    Ret Try.prog 4 #[.slice a L c] w fun v w' => v = .bool true ∧ Chg No w w' := by
  refine Ret_of_X 87 Try.func4 rfl Try.ntmps4 rfl rfl ?_
  refine XC_seq rfl ?_
  refine XC_region rfl ?_
  refine o_as (.bool _) rfl rfl rfl rfl ?_
  refine XO_end rfl ?_
  refine thenX_normal ?_
  refine XC_seq rfl ?_
  refine XC_region rfl ?_
  refine XO_stepd rfl rfl rfl rfl (m_call Try.call10 (lawFresh_ok) rfl ?_)
  rintro _ w1 ⟨q0, p, N0, γ1, rfl, hN1, hN2, hNe, he1, hlog1⟩
  obtain rfl : N0 = 8 := by rw [hNe]; decide
  refine o_mv (.tuple _) rfl rfl rfl rfl ?_
  refine o_ext (.pointer _) rfl rfl rfl rfl rfl ?_
  refine o_ext (.pointer _) rfl rfl rfl rfl rfl ?_
  refine o_as (.pointer _) rfl rfl rfl rfl ?_
  refine o_as (.pointer _) rfl rfl rfl rfl ?_
  refine XO_end rfl ?_
  refine thenX_normal ?_
  refine XC_seq rfl ?_
  refine XC_seq rfl ?_
  refine XC_region rfl ?_
  refine o_mv (.pointer _) rfl rfl rfl rfl ?_
  refine o_eqp rfl rfl rfl Try.underlying23 rfl rfl ?_
  refine XO_end rfl ?_
  refine thenX_normal ?_
  refine XC_cond_false rfl rfl ?_
  refine XC_skip rfl ?_
  refine thenX_normal ?_
  refine XC_seq rfl ?_
  refine XC_region rfl ?_
  refine o_as (.slice _ _ _) rfl rfl rfl rfl ?_
  refine XO_end rfl ?_
  refine thenX_normal ?_
  refine XC_seq rfl ?_
  refine XC_seq rfl ?_
  refine XC_region rfl ?_
  refine o_mv (.slice _ _ _) rfl rfl rfl rfl ?_
  refine o_len rfl rfl rfl Try.underlying33 rfl ?_
  refine o_mv (.int _ _) rfl rfl rfl rfl ?_
  refine XO_end rfl ?_
  refine thenX_normal ?_
  refine XC_block (id := 0) rfl ?_
  refine XC_loop (fun m l w' => ∃ (i q : Nat) (want : List Byt) (S : PSt) (γ' : Nat → Nat) (a5 : Option Addr) (c5 : Nat), l = [(3, .pointer (some ⟨q, 0, none⟩)), (4, .pointer (some ⟨p, 0, none⟩)), (5, .slice a5 want.length c5), (19, .slice a L c), (20, .int .i64 (L : Int)), (21, .int .i64 (i : Int))] ∧ i ≤ L ∧ i ≤ 13 ∧ m = L - i ∧ Ext (fun _ => 0) γ' (fun k => k = 1 ∨ k = 2 ∨ k = 3) w w' ∧ Log γ' 1 2 w' q p (TW (i + 1) want) S ∧ Good S (i + 1) want ∧ WantAt w w.heap.size γ' w' a5 c5 want) rfl (L) [(3, .pointer (some ⟨q0, 0, none⟩)), (4, .pointer (some ⟨p, 0, none⟩)), (5, .slice none 0 0), (19, .slice a L c), (20, .int .i64 (L : Int)), (21, .int .i64 0)] ?_ ?_ ?_
  · exact Agrees.cons rfl (Agrees.cons rfl (Agrees.cons rfl (Agrees.cons rfl (Agrees.cons rfl (Agrees.cons rfl (Agrees.nil _))))))
  · exact ⟨0, q0, [], _, γ1, none, 0, rfl, by omega, by omega, rfl, he1.mono (fun _ x => by omega), hlog1, good_fresh, [], World.ownsRow_nil _ _ _ _, fun k hk => (by obtain ⟨_, h, _⟩ := hk; cases h), fun j u b hu => by simp at hu⟩
  intro m l wr g ⟨i, q, want, S, γr0, a5, c5, hl, hi, hi13, hm, he0, hlog0, hgood, hwant0⟩
  subst hl
  refine XC_seq rfl ?_
  refine XC_region rfl ?_
  refine o_lss rfl rfl rfl rfl rfl ?_
  refine XO_end rfl ?_
  refine thenX_normal ?_
  refine XC_seq rfl ?_
  refine XC_cond rfl rfl (fun hlt => ?_) (fun hlt => ?_)
  · try simp only [decide_eq_true_eq, decide_eq_false_iff_not, Int.not_lt, Int.not_le, ne_eq, Decidable.not_not, gt_iff_lt, ge_iff_le] at hlt
    have hlt' : i < L := by omega
    have hnx := norm_ext γr0 (fun _ => False) wr
    have hz : ∀ k, wr.heap.size ≤ k → norm γr0 wr k = 0 := fun k hk => norm_new hk
    have he := he0.trans (hnx.mono (fun _ x => False.elim x))
    have hlog := hlog0.ext hnx id id id
    have hwant := hwant0.ext hnx id
    clear he0 hlog0 hwant0
    generalize norm γr0 wr = γr at hnx hz he hlog hwant
    obtain ⟨d, hd⟩ : ∃ d, ds[i]? = some d := ⟨_, List.getElem?_eq_getElem (by have := hds.1; omega)⟩
    obtain ⟨bb, o, vr, vrs, rfl, hcells, ⟨ar, cr, rfl, hrr, hcr, hokr⟩, ⟨ars, Ls, cs6, vs6, rfl, _⟩⟩ := hds.2 i d hd
    have hone := hB d (List.mem_of_getElem? hd)
    have hcr' : ∀ (j : Nat) (v : Value), [.int .i64 d.op, .int .i64 d.torn, .int .i64 d.n, .slice ar d.one.length cr, .slice ars Ls cs6, .int .u64 d.mask][j]? = some v → wr.cell? (Addr.add ⟨bb, o + i * 6, none⟩ j) = some v := fun j v hv => by
      have h1 := hcells j v hv
      rw [Addr.add_lit] at h1 ⊢
      exact cell_keep he.chg h1 (by show ¬ ((0 : Nat) = 1 ∨ (0 : Nat) = 2 ∨ (0 : Nat) = 3); omega)
    refine XC_skip rfl ?_
    refine thenX_normal ?_
    refine XC_seq rfl ?_
    refine XC_block (id := 1) rfl ?_
    refine XC_seq rfl ?_
    refine XC_region rfl ?_
    refine o_mv (.int _ _) rfl rfl rfl rfl ?_
    refine o_iaN (i) rfl rfl rfl Try.underlying33 Try.sizeOf36 rfl rfl (by first | rfl | omega) (by omega) ?_
    refine o_ldN ([.int .i64 d.op, .int .i64 d.torn, .int .i64 d.n, .slice ar d.one.length cr, .slice ars Ls cs6, .int .u64 d.mask]) rfl rfl rfl Try.isAgg36 Try.sizeOf36 rfl rfl (hcr') ?_
    refine XO_stepd rfl rfl rfl rfl (m_alloc [.int _ _, .int _ _, .int _ _, .slice _ _ _, .slice _ _ _, .int _ _] Try.zeroValue36 rfl ?_)
    intro w2 hc2 hs2 hB2
    refine o_as (.int _ _) rfl rfl rfl rfl ?_
    refine XO_stepn rfl rfl rfl (m_stA [.int _ _, .int _ _, .int _ _, .slice _ _ _, .slice _ _ _, .int _ _] Try.sizeOf36 rfl rfl rfl (by simp [Value.oneCell']) (by assumption) (by simp) ?_)
    intro w3 hc3 hs3 hB3
    refine XO_end rfl ?_
    refine thenX_normal ?_
    have hB7 : At w3 wr.heap.size (.cells #[.int .i64 d.op, .int .i64 d.torn, .int .i64 d.n, .slice ar d.one.length cr, .slice ars Ls cs6, .int .u64 d.mask] 36 (0, 0)) := by simpa [over] using hB3
    have hc03 : Chg No wr w3 := hc2.then hc3 (fun _ _ h => h) (fun k hk e => by omega)
    have hs03 := hc03.size
    have hlog3 := hlog.no hc03
    have he3 := he.trans (Ext.ofNo hc03)
    have hwant3 := hwant.ext (Ext.ofNo (C := fun _ => False) hc03) id
    refine XC_seq rfl ?_
    refine XC_seq rfl ?_
    refine XC_region rfl ?_
    refine o_mv (.int _ _) rfl rfl rfl rfl ?_
    refine o_gtr rfl rfl rfl rfl rfl ?_
    refine XO_end rfl ?_
    refine thenX_normal ?_
    refine XC_cond rfl rfl (fun h27 => ?_) (fun h27 => ?_)
    · try simp only [decide_eq_true_eq, decide_eq_false_iff_not, Int.not_lt, Int.not_le, ne_eq, Decidable.not_not, gt_iff_lt, ge_iff_le] at h27
      refine XC_exit rfl ?_
      refine thenX_exit ?_
      refine inBlockX_past rfl ?_
      refine thenX_exit ?_
      refine thenX_exit ?_
      refine inBlockX_here ?_
      refine thenX_normal ?_
      refine XC_seq rfl ?_
      refine XC_region rfl ?_
      refine o_mv (.pointer _) rfl rfl rfl rfl ?_
      refine XO_stepd rfl rfl rfl rfl (m_call Try.call20 (Life_ok hlog3) rfl ?_)
      rintro _ _ ⟨rfl, rfl⟩
      refine o_gtr rfl rfl rfl rfl rfl ?_
      refine o_as (.bool _) rfl rfl rfl rfl ?_
      refine XO_end rfl ?_
      refine thenX_normal ?_
      refine XC_ret rfl ?_
      refine topX_ret ?_
      refine RetV_of (.bool _) rfl ?_
      exact ⟨by congr 1; rw [decide_eq_true_eq]; show (0 : Int) < ((i + 1 : Nat) : Int); omega, he3.chg.mono (fun _ _ x => by omega)⟩
    · try simp only [decide_eq_true_eq, decide_eq_false_iff_not, Int.not_lt, Int.not_le, ne_eq, Decidable.not_not, gt_iff_lt, ge_iff_le] at h27
      have hrr3 : RowZ γr w3 ar d.one.length (u8s d.one) := RowZ.ext ⟨hrr, fun _ _ _ => rfl⟩ he3 (by omega)
      refine XC_skip rfl ?_
      refine thenX_normal ?_
      refine XC_cut (fun l w' => ∃ (want2 : List Byt) (S2 : PSt) (γ' : Nat → Nat) (a2 : Option Addr) (c2 : Nat), l = [(3, .pointer (some ⟨q, 0, none⟩)), (4, .pointer (some ⟨p, 0, none⟩)), (5, .slice a2 want2.length c2), (6, .int .i64 (i : Int)), (7, .pointer (some ⟨wr.heap.size, 0, none⟩)), (19, .slice (some ⟨bb, o, none⟩) L c), (20, .int .i64 (L : Int)), (21, .int .i64 (i : Int))] ∧ Ext (fun _ => 0) γ' (fun k => k = 1 ∨ k = 2 ∨ k = 3) w w' ∧ Log γ' 1 2 w' q p (TW (i + 1) want2) S2 ∧ Good S2 (i + 1) want2 ∧ WantAt w w.heap.size γ' w' a2 c2 want2 ∧ At w' wr.heap.size (.cells #[.int .i64 d.op, .int .i64 d.torn, .int .i64 d.n, .slice ar d.one.length cr, .slice ars Ls cs6, .int .u64 d.mask] 36 (0, 0)) ∧ γ' wr.heap.size = 0) rfl ?_ ?_
      · refine XC_seq rfl ?_
        refine XC_region rfl ?_
        refine o_mv (.pointer _) rfl rfl rfl rfl ?_
        refine o_fa0 3 rfl rfl rfl Try.underlying36 rfl Try.sizeOf28 rfl rfl rfl ?_
        refine o_ldB (.slice _ _ _) rfl rfl rfl Try.isAgg28 rfl (by assumption) rfl ?_
        refine XO_stepd rfl rfl rfl rfl (m_call Try.call15 (Clone_ok hrr3.1 (u8s_one _) (by omega)) rfl ?_)
        rintro _ w4 ⟨a4, c4, rfl, ho4, hc4, hn4⟩
        have hrz4 : RowZ γr w4 a4 d.one.length (u8s d.one) := ⟨Row.of_own ho4, fun k _ hb => hz k (by have := (own_blk ho4 k hb).1; omega)⟩
        have hlog4 := hlog3.no hc4
        have hs4 := hc4.size
        refine XO_stepd rfl rfl rfl rfl (m_call Try.call12 (Append_ok hlog4 hrz4 hokr (own_le ho4) (by omega)) rfl ?_)
        rintro _ w5 ⟨kk, ee, T5, S5, γ5, rfl, he5, hlog5, hcase5⟩
        have hB75 : At w5 wr.heap.size (.cells #[.int .i64 d.op, .int .i64 d.torn, .int .i64 d.n, .slice ar d.one.length cr, .slice ars Ls cs6, .int .u64 d.mask] 36 (0, 0)) := (hB7.keep hc4 (fun x => x)).keep he5.chg (by rw [hz _ (Nat.le_refl _)]; omega)
        have hg75 : γ5 wr.heap.size = 0 := (he5.col _ (by omega)).trans (hz _ (Nat.le_refl _))
        have he35 : Ext (fun _ => 0) γ5 (fun k => k = 1 ∨ k = 2 ∨ k = 3) w w5 := (he3.trans (Ext.ofNo hc4)).trans (he5.mono (fun _ x => by omega))
        have hwant5 := (hwant3.ext (Ext.ofNo (C := fun _ => False) hc4) id).ext he5 (by omega)
        refine o_mv (.tuple _) rfl rfl rfl rfl ?_
        refine o_ext (.int _ _) rfl rfl rfl rfl rfl ?_
        refine o_ext (.int _ _) rfl rfl rfl rfl rfl ?_
        refine o_as (.int _ _) rfl rfl rfl rfl ?_
        refine o_as (.int _ _) rfl rfl rfl rfl ?_
        refine XO_end rfl ?_
        refine thenX_normal ?_
        refine XC_cut (fun l w' => ∃ (b42 : Bool) (T6 : WSt) (S6 : PSt) (γ' : Nat → Nat), l = [(3, .pointer (some ⟨q, 0, none⟩)), (4, .pointer (some ⟨p, 0, none⟩)), (5, .slice a5 want.length c5), (6, .int .i64 (i : Int)), (7, .pointer (some ⟨wr.heap.size, 0, none⟩)), (19, .slice (some ⟨bb, o, none⟩) L c), (20, .int .i64 (L : Int)), (21, .int .i64 (i : Int)), (42, .bool b42)] ∧ Ext (fun _ => 0) γ' (fun k => k = 1 ∨ k = 2 ∨ k = 3) w w' ∧ Log γ' 1 2 w' q p T6 S6 ∧ WantAt w w.heap.size γ' w' a5 c5 want ∧ At w' wr.heap.size (.cells #[.int .i64 d.op, .int .i64 d.torn, .int .i64 d.n, .slice ar d.one.length cr, .slice ars Ls cs6, .int .u64 d.mask] 36 (0, 0)) ∧ γ' wr.heap.size = 0 ∧ ((b42 = true ∧ T6 = TW (i + 1) (want ++ [d.one]) ∧ Good S6 (i + 1) (want ++ [d.one])) ∨ (b42 = false ∧ T6 = TW (i + 1) want ∧ Good S6 (i + 1) want))) rfl ?_ ?_
        · refine XC_region rfl ?_
          refine o_mv (.int _ _) rfl rfl rfl rfl ?_
          refine o_eql rfl rfl rfl rfl rfl ?_
          refine o_mv (.bool _) rfl rfl rfl rfl ?_
          refine XO_bool 38 rfl (fun h38 => ?_) (fun h38 => ?_)
          · try simp only [decide_eq_true_eq, decide_eq_false_iff_not, Int.not_lt, Int.not_le, ne_eq, Decidable.not_not, gt_iff_lt, ge_iff_le] at h38
            have h3 : (0 < d.one.length ∧ d.one.length ≤ 2000) ∧ needN d.one.length ≤ 6 - needs want ∧ T5 = { TW (i + 1) want with used := (TW (i + 1) want).used + needN d.one.length, next := (TW (i + 1) want).next + 1 } ∧ S5 = putRec (TW (i + 1) want) S d.one (needN d.one.length) := by
              rcases hcase5 with ⟨_, _, x, _⟩ | ⟨_, _, _, x, _⟩ | ⟨x1, x2, _, _, _, _, _, _, x3, x4⟩
              · omega
              · omega
              · exact ⟨x1, x2, x3, x4⟩
            obtain ⟨hl1, hl2, hT5, hS5⟩ := h3
            have hTW : T5 = TW (i + 1) (want ++ [d.one]) := by rw [hT5]; simp [TW, needs_snoc, Nat.add_assoc]
            subst hS5
            have hgood2 := good_put hgood hl1.1 hl1.2 hl2
            refine o_mv (.pointer _) rfl rfl rfl rfl ?_
            refine XO_stepd rfl rfl rfl rfl (m_call Try.call16 (WSync_ok hlog5) rfl ?_)
            rintro _ w6 ⟨rfl, γ6, he6, hlog6⟩
            rw [hTW] at hlog6
            have hs5 := he5.chg.size
            have hB76 : At w6 wr.heap.size (.cells #[.int .i64 d.op, .int .i64 d.torn, .int .i64 d.n, .slice ar d.one.length cr, .slice ars Ls cs6, .int .u64 d.mask] 36 (0, 0)) := hB75.keep he6.chg (by rw [hg75]; omega)
            have hg76 : γ6 wr.heap.size = 0 := (he6.col _ (by omega)).trans hg75
            have he36 := he35.trans (he6.mono (C' := fun k => k = 1 ∨ k = 2 ∨ k = 3) (fun _ x => .inl x))
            refine o_eql rfl rfl rfl rfl rfl ?_
            refine o_pick1 (.bool _) rfl rfl rfl rfl rfl ?_
            refine XO_end rfl ?_
            refine thenX_normal ?_
            exact ⟨[(3, .pointer (some ⟨q, 0, none⟩)), (4, .pointer (some ⟨p, 0, none⟩)), (5, .slice a5 want.length c5), (6, .int .i64 (i : Int)), (7, .pointer (some ⟨wr.heap.size, 0, none⟩)), (19, .slice (some ⟨bb, o, none⟩) L c), (20, .int .i64 (L : Int)), (21, .int .i64 (i : Int)), (42, .bool _)], Agrees.cons rfl (Agrees.cons rfl (Agrees.cons rfl (Agrees.cons rfl (Agrees.cons rfl (Agrees.cons rfl (Agrees.cons rfl (Agrees.cons rfl (Agrees.cons rfl (Agrees.nil _))))))))), ⟨_, _, _, γ6, rfl, he36, hlog6, hwant5.ext he6 (by omega), hB76, hg76, .inl ⟨rfl, rfl, hgood2⟩⟩⟩
          · try simp only [decide_eq_true_eq, decide_eq_false_iff_not, Int.not_lt, Int.not_le, ne_eq, Decidable.not_not, gt_iff_lt, ge_iff_le] at h38
            have h3 : T5 = TW (i + 1) want ∧ S5 = S := by
              rcases hcase5 with ⟨_, _, _, _, _, _, x1, x2⟩ | ⟨_, _, _, _, _, _, _, x1, x2⟩ | ⟨_, _, _, _, x, _⟩
              · exact ⟨x1, x2⟩
              · exact ⟨x1, x2⟩
              · exact absurd x h38
            obtain ⟨rfl, rfl⟩ := h3
            refine XO_barred rfl rfl rfl rfl ?_
            refine XO_barred rfl rfl rfl rfl ?_
            refine XO_barred rfl rfl rfl rfl ?_
            refine o_pick0 (.bool _) rfl rfl rfl rfl rfl ?_
            refine XO_end rfl ?_
            refine thenX_normal ?_
            exact ⟨[(3, .pointer (some ⟨q, 0, none⟩)), (4, .pointer (some ⟨p, 0, none⟩)), (5, .slice a5 want.length c5), (6, .int .i64 (i : Int)), (7, .pointer (some ⟨wr.heap.size, 0, none⟩)), (19, .slice (some ⟨bb, o, none⟩) L c), (20, .int .i64 (L : Int)), (21, .int .i64 (i : Int)), (42, .bool _)], Agrees.cons rfl (Agrees.cons rfl (Agrees.cons rfl (Agrees.cons rfl (Agrees.cons rfl (Agrees.cons rfl (Agrees.cons rfl (Agrees.cons rfl (Agrees.cons rfl (Agrees.nil _))))))))), ⟨_, _, _, γ5, rfl, he35, hlog5, hwant5, hB75, hg75, .inr ⟨rfl, rfl, hgood⟩⟩⟩
        · intro l w6 g ⟨b42, T6, S6, γ6, hl, he36, hlog6, hwant6, hB76, hg76, h42⟩
          subst hl
          have hs6 := he36.chg.size
          refine XC_cond rfl rfl (fun hb42 => ?_) (fun hb42 => ?_)
          · try simp only [decide_eq_true_eq, decide_eq_false_iff_not, Int.not_lt, Int.not_le, ne_eq, Decidable.not_not, gt_iff_lt, ge_iff_le] at hb42
            obtain ⟨rfl, hgood2⟩ : T6 = TW (i + 1) (want ++ [d.one]) ∧ Good S6 (i + 1) (want ++ [d.one]) := by rcases h42 with ⟨_, x⟩ | ⟨x, _⟩; exact x; rw [x] at hb42; cases hb42
            obtain ⟨vs5, hown6, hcol6, harg6⟩ := hwant6
            refine XC_region rfl ?_
            refine o_mv (.slice _ _ _) rfl rfl rfl rfl ?_
            refine o_fa0 3 rfl rfl rfl Try.underlying36 rfl Try.sizeOf28 rfl rfl rfl ?_
            refine o_ldB (.slice _ _ _) rfl rfl rfl Try.isAgg28 rfl (by assumption) rfl ?_
            refine XO_stepd rfl rfl rfl rfl (m_bsl [.slice _ _ _] Try.underlying22 Try.sizeOf28 Try.zeroValue28 rfl rfl rfl rfl (by simp [Value.oneCell']) ?_)
            intro w7 hc7 hs7 hB77
            have hrow7 := Row.of_cells (l := 1) hB77 rfl
            have hwl : want.length ≤ 6 := Nat.le_trans (laid_len hgood.near.laid) hgood.near.room
            refine XO_stepd rfl rfl rfl rfl (m_app (bytes := 24) Try.underlying22 Try.typeInfo28 rfl rfl rfl rfl rfl rfl (own_keep hown6 hc7 (fun _ _ x => x)) (hrow7) ((by intro u hu; simp at hu; subst hu; rfl)) (by omega) (by omega) (by omega) ?_)
            intro a8 c8 w8 ho8 hc8 hb8 hn8
            have hch8 : Chg (fun k => γ6 k = 3) w6 w8 := hc7.then hc8 (fun _ _ h => h.elim) (fun k _ e => hcol6 k e)
            have e8 : Ext γ6 (recol γ6 w6.heap.size (isBlk a8) 3) (· = 3) w6 w8 := Ext.recol hch8
            have hcol8 : ∀ k, isBlk a8 k → recol γ6 w6.heap.size (isBlk a8) 3 k = 3 := fun k hk => by
              rcases Nat.lt_or_ge k w6.heap.size with hlt | hge
              · rw [recol_old hlt]
                rcases hb8 k hk with h | h
                · exact hcol6 k h
                · omega
              · exact recol_in hge hk
            have hwant8 : WantAt w w.heap.size (recol γ6 w6.heap.size (isBlk a8) 3) w8 a8 c8 (want ++ [d.one]) := by
              have hvl : vs5.length = want.length := hown6.1.trans (Nat.mul_one _)
              refine ⟨vs5 ++ [.slice ar d.one.length cr], by rw [List.length_append]; exact ho8, hcol8, fun j u b hu hb => ?_⟩
              rcases Nat.lt_or_ge j want.length with hj | hj
              · rw [List.getElem?_append_left (by omega)] at hu hb
                exact harg6 j u b hu hb
              · rw [List.getElem?_append_right (by omega)] at hu hb
                have hj0 : j = want.length := by have := (List.getElem?_eq_some_iff.1 hb).1; simp at this; omega
                subst hj0
                rw [hvl, Nat.sub_self] at hu
                rw [Nat.sub_self] at hb
                simp at hu hb; subst hu; subst hb
                exact ⟨ar, cr, rfl, hrr, hcr, hokr⟩
            refine o_as (.slice _ _ _) rfl rfl rfl rfl ?_
            refine XO_end rfl ?_
            refine thenX_normal ?_
            exact ⟨[(3, .pointer (some ⟨q, 0, none⟩)), (4, .pointer (some ⟨p, 0, none⟩)), (5, .slice a8 (want.length + 1) c8), (6, .int .i64 (i : Int)), (7, .pointer (some ⟨wr.heap.size, 0, none⟩)), (19, .slice (some ⟨bb, o, none⟩) L c), (20, .int .i64 (L : Int)), (21, .int .i64 (i : Int))], Agrees.cons rfl (Agrees.cons rfl (Agrees.cons rfl (Agrees.cons rfl (Agrees.cons rfl (Agrees.cons rfl (Agrees.cons rfl (Agrees.cons rfl (Agrees.nil _)))))))), ⟨want ++ [d.one], _, _, a8, c8, by rw [List.length_append]; rfl, he36.trans (e8.mono (fun _ x => .inr (.inr x))), hlog6.ext e8 (by omega) (by omega) (by omega), hgood2, hwant8, hB76.keep e8.chg (by rw [hg76]; omega), (e8.col _ hB76.lt).trans hg76⟩⟩
          · try simp only [decide_eq_true_eq, decide_eq_false_iff_not, Int.not_lt, Int.not_le, ne_eq, Decidable.not_not, gt_iff_lt, ge_iff_le] at hb42
            obtain ⟨rfl, hgood2⟩ : T6 = TW (i + 1) want ∧ Good S6 (i + 1) want := by rcases h42 with ⟨x, _⟩ | ⟨_, x⟩; rw [x] at hb42; cases hb42; exact x
            refine XC_skip rfl ?_
            refine thenX_normal ?_
            exact ⟨[(3, .pointer (some ⟨q, 0, none⟩)), (4, .pointer (some ⟨p, 0, none⟩)), (5, .slice a5 want.length c5), (6, .int .i64 (i : Int)), (7, .pointer (some ⟨wr.heap.size, 0, none⟩)), (19, .slice (some ⟨bb, o, none⟩) L c), (20, .int .i64 (L : Int)), (21, .int .i64 (i : Int))], Agrees.cons rfl (Agrees.cons rfl (Agrees.cons rfl (Agrees.cons rfl (Agrees.cons rfl (Agrees.cons rfl (Agrees.cons rfl (Agrees.cons rfl (Agrees.nil _)))))))), ⟨want, S6, γ6, a5, c5, rfl, he36, hlog6, hgood2, hwant6, hB76, hg76⟩⟩
      · intro l w9 g ⟨want2, S2, γ9', a9, c9, hl, he9', hlog9', hgood9, hwant9', hB9, hg9'⟩
        subst hl
        have hnx9 := norm_ext γ9' (fun _ => False) w9
        have hz9 : ∀ k, w9.heap.size ≤ k → norm γ9' w9 k = 0 := fun k hk => norm_new hk
        have he9 := he9'.trans (hnx9.mono (fun _ x => False.elim x))
        have hlog9 := hlog9'.ext hnx9 id id id
        have hwant9 := hwant9'.ext hnx9 id
        have hg9 : norm γ9' w9 wr.heap.size = 0 := (hnx9.col _ hB9.lt).trans hg9'
        clear he9' hlog9' hwant9'
        generalize norm γ9' w9 = γ9 at hnx9 hz9 he9 hlog9 hwant9 hg9
        have hwl : want2.length ≤ 6 := Nat.le_trans (laid_len hgood9.near.laid) hgood9.near.room
        refine XC_seq rfl ?_
        refine XC_region rfl ?_
        refine o_mv (.pointer _) rfl rfl rfl rfl ?_
        refine o_mv (.int _ _) rfl rfl rfl rfl ?_
        refine o_cvi (_) rfl rfl rfl Try.underlying5 (by rw [Try.underlying3]; rfl) rfl rfl ?_
        refine XO_stepd rfl rfl rfl rfl (m_bsl [.int _ _, .int _ _] Try.underlying28 Try.sizeOf5 Try.zeroValue5 rfl rfl rfl rfl (by simp [Value.oneCell']) ?_)
        intro w10 hc10 hs10 hB10
        have hrow10 : Row w10 (some ⟨w9.heap.size, 0, none⟩) 2 (u8s [9, IntKind.u8.wrap (i : Int)]) := Row.of_cells (xs := u8s [9, IntKind.u8.wrap (i : Int)]) hB10 rfl
        have hok10 : Okb [9, IntKind.u8.wrap (i : Int)] := fun x hx => by simp at hx; rcases hx with rfl | rfl; omega; exact wrap_u8 _
        refine XO_stepd rfl rfl rfl rfl (m_call Try.call12 (Append_ok (rec := [9, IntKind.u8.wrap (i : Int)]) (hlog9.no hc10) ⟨hrow10, fun k _ hb => hz9 k (by obtain ⟨ad, e, rfl⟩ := hb; injection e with e; subst e; exact Nat.le_refl _)⟩ hok10 (by omega) (by omega)) rfl ?_)
        rintro _ w11 ⟨kk2, ee2, T11, S11, γ11, rfl, he11, hlog11, hcase11⟩
        refine XO_end rfl ?_
        refine thenX_normal ?_
        have hS11 : S11 = S2 ∨ ∃ b, needs want2 < 6 ∧ b.length = 64 ∧ S11 = S2.write (2 + needs want2) b := by
          rcases hcase11 with ⟨_, _, _, _, _, _, _, x⟩ | ⟨_, _, _, _, _, _, _, _, x⟩ | ⟨_, x2, _, _, _, _, _, _, _, x4⟩
          · exact .inl x
          · exact .inl x
          · have hn1 : needN 2 = 1 := rfl
            have hlt : needs want2 < 6 := by have e1 : needN 2 ≤ 6 - needs want2 := x2; omega
            refine .inr ⟨recPiece (1 + want2.length) [9, IntKind.u8.wrap (i : Int)] 0, hlt, pieceB_len (by rw [chunk_len]; omega), ?_⟩
            rw [x4, hn1]
            show S2.write (secN (TW (i + 1) want2) (needs want2 + 0)) _ = _
            rw [show secN (TW (i + 1) want2) (needs want2 + 0) = 2 + needs want2 from secTW hlt]; rfl
        have hs10' := hc10.size
        have hB11 := (hB9.keep hc10 (fun x => x)).keep he11.chg (by rw [hg9]; omega)
        refine XC_seq rfl ?_
        refine XC_seq rfl ?_
        refine XC_region rfl ?_
        refine o_mv (.pointer _) rfl rfl rfl rfl ?_
        refine o_fa0 1 rfl rfl rfl Try.underlying36 rfl Try.sizeOf3 rfl rfl rfl ?_
        refine o_ldB (.int _ _) rfl rfl rfl Try.isAgg3 rfl (by assumption) rfl ?_
        refine o_fa0 2 rfl rfl rfl Try.underlying36 rfl Try.sizeOf3 rfl rfl rfl ?_
        refine o_ldB (.int _ _) rfl rfl rfl Try.isAgg3 rfl (by assumption) rfl ?_
        refine o_rem (d.n.tmod 60) rfl rfl rfl rfl rfl (by omega) rfl ?_
        refine XO_stepd rfl rfl rfl rfl (m_call Try.call17 (Crash_ok (ks := []) hlog11.pl (by omega) ⟨Row.nil _ _, fun k hk _ => by omega⟩ (by omega)) rfl ?_)
        rintro _ w12 ⟨rfl, γ12, he12, hp12⟩
        refine o_neq rfl rfl rfl rfl rfl ?_
        refine XO_end rfl ?_
        refine thenX_normal ?_
        refine XC_cond_false rfl rfl ?_
        have hnear := near_crash (torn := d.torn) hgood9 (show d.n.tmod 60 ≤ 59 by have := Int.tmod_lt_of_pos d.n (show (0 : Int) < 60 by omega); omega) hS11
        refine XC_skip rfl ?_
        refine thenX_normal ?_
        refine XC_seq rfl ?_
        refine XC_region rfl ?_
        refine o_mv (.pointer _) rfl rfl rfl rfl ?_
        refine XO_stepd rfl rfl rfl rfl (m_call Try.call18 (Open_old (d := 2) (T0 := T0 (i + 1)) (rs0 := want2) hp12 (by rw [hnear.len]; omega) (by omega) (by omega) (by omega) (near_heads hnear (by omega) (by omega)) (near_scan hnear) (by show i + 1 ≠ 0; omega) (by show i + 1 < _; omega) (by show i + 1 < _; omega) (by show 1 + 6 < _; omega)) rfl ?_)
        rintro _ w13 ⟨q2, γ13, rv, rfl, hq13, he13, hlog13, htx⟩
        obtain ⟨a13, k13, vs13, rfl, htx'⟩ := id htx
        have he013 := (((he9.trans (Ext.ofNo hc10)).trans (he11.mono (C' := fun k => k = 1 ∨ k = 2 ∨ k = 3) (fun _ x => by omega))).trans (he12.mono (C' := fun k => k = 1 ∨ k = 2 ∨ k = 3) (fun _ x => .inl x))).trans (he13.mono (C' := fun k => k = 1 ∨ k = 2 ∨ k = 3) (fun _ x => by omega))
        have hwant13 := (((hwant9.ext (Ext.ofNo (C := fun _ => False) hc10) id).ext he11 (by omega)).ext he12 (by omega)).ext he13 (by omega)
        refine o_mv (.tuple _) rfl rfl rfl rfl ?_
        refine o_ext (.pointer _) rfl rfl rfl rfl rfl ?_
        refine o_ext (.slice _ _ _) rfl rfl rfl rfl rfl ?_
        refine o_ext (.int _ _) rfl rfl rfl rfl rfl ?_
        refine o_as (.pointer _) rfl rfl rfl rfl ?_
        refine o_as (.slice _ _ _) rfl rfl rfl rfl ?_
        refine o_as (.int _ _) rfl rfl rfl rfl ?_
        refine XO_end rfl ?_
        refine thenX_normal ?_
        refine XC_seq rfl ?_
        refine XC_seq rfl ?_
        refine XC_region rfl ?_
        refine o_mv (.int _ _) rfl rfl rfl rfl ?_
        refine o_neq rfl rfl rfl rfl rfl ?_
        refine o_mv (.bool _) rfl rfl rfl rfl ?_
        refine o_mv (.slice _ _ _) rfl rfl rfl rfl ?_
        refine o_mv (.slice _ _ _) rfl rfl rfl rfl ?_
        refine XO_stepd rfl rfl rfl rfl (m_call Try.call19 (SameTexts_ok htx.slbs (hwant13.slbs he013) (by omega) (by omega)) rfl ?_)
        rintro _ _ ⟨rfl, rfl⟩
        rw [decide_eq_true (show want2 = want2 from rfl)]
        refine o_not rfl rfl rfl rfl ?_
        refine o_pick0 (.bool _) rfl rfl rfl rfl rfl ?_
        refine o_mv (.bool _) rfl rfl rfl rfl ?_
        refine o_mv (.pointer _) rfl rfl rfl rfl ?_
        refine XO_stepd rfl rfl rfl rfl (m_call Try.call20 (Life_ok hlog13) rfl ?_)
        rintro _ _ ⟨rfl, rfl⟩
        refine o_mv (.int _ _) rfl rfl rfl rfl ?_
        refine o_add _ rfl rfl rfl rfl rfl (in64 (by omega) (by omega)) ?_
        refine o_neq rfl rfl rfl rfl rfl ?_
        refine o_pick0 (.bool _) rfl rfl rfl rfl rfl ?_
        refine XO_end rfl ?_
        refine thenX_normal ?_
        refine XC_cond rfl rfl (fun hb => ?_) (fun hb => ?_)
        · exfalso; have e : ((i + 1 + 1 : Nat) : Int) = (i : Int) + 2 := (by omega); change decide (((i + 1 + 1 : Nat) : Int) ≠ (i : Int) + 2) = true at hb; rw [e] at hb; simp at hb
        refine XC_skip rfl ?_
        refine thenX_normal ?_
        refine XC_region rfl ?_
        refine o_mv (.pointer _) rfl rfl rfl rfl ?_
        refine o_as (.pointer _) rfl rfl rfl rfl ?_
        refine XO_end rfl ?_
        refine inBlockX_normal ?_
        refine thenX_normal ?_
        refine XC_region rfl ?_
        refine o_add _ rfl rfl rfl rfl rfl (in64 (by omega) (by omega)) ?_
        refine o_mv (.int _ _) rfl rfl rfl rfl ?_
        refine XO_end rfl ?_
        refine thenX_normal ?_
        exact ⟨L - (i + 1), [(3, .pointer (some ⟨q2, 0, none⟩)), (4, .pointer (some ⟨p, 0, none⟩)), (5, .slice a9 want2.length c9), (19, .slice _ L c), (20, .int .i64 (L : Int)), (21, .int .i64 ((i : Int) + 1))], by omega, Agrees.cons rfl (Agrees.cons rfl (Agrees.cons rfl (Agrees.cons rfl (Agrees.cons rfl (Agrees.cons rfl (Agrees.nil _)))))), ⟨i + 1, q2, want2, _, γ13, a9, c9, rfl, by omega, by omega, rfl, he013, hlog13, near_open hnear (by omega) (by omega), hwant13⟩⟩
  · try simp only [decide_eq_true_eq, decide_eq_false_iff_not, Int.not_lt, Int.not_le, ne_eq, Decidable.not_not, gt_iff_lt, ge_iff_le] at hlt
    refine XC_exit rfl ?_
    refine thenX_exit ?_
    refine thenX_exit ?_
    refine inBlockX_here ?_
    refine thenX_normal ?_
    refine XC_seq rfl ?_
    refine XC_region rfl ?_
    refine o_mv (.pointer _) rfl rfl rfl rfl ?_
    refine XO_stepd rfl rfl rfl rfl (m_call Try.call20 (Life_ok hlog0) rfl ?_)
    rintro _ _ ⟨rfl, rfl⟩
    refine o_gtr rfl rfl rfl rfl rfl ?_
    refine o_as (.bool _) rfl rfl rfl rfl ?_
    refine XO_end rfl ?_
    refine thenX_normal ?_
    refine XC_ret rfl ?_
    refine topX_ret ?_
    refine RetV_of (.bool _) rfl ?_
    exact ⟨by congr 1; rw [decide_eq_true_eq]; show (0 : Int) < ((i + 1 : Nat) : Int); omega, he0.chg.mono (fun _ _ x => by omega)⟩
end Go.Proofs.Ytijjnlfmlcbfpaa

/- Writing heads; a log of a plate of noughts. -/
import Derived.Test.YtijjnlfmlcbfpaaParse
set_option linter.unusedVariables false
set_option maxRecDepth 4000
namespace Go.Proofs.Ytijjnlfmlcbfpaa
open Go
theorem sync_len (S : PSt) : S.sync.all.length = S.all.length := by simp [PSt.sync]
theorem write_all (S : PSt) (i : Nat) (b : Byt) : (S.write i b).all = S.all := rfl

section
variable {γ : Nat → Nat} {c d : Nat} {w : World} {q p : Nat} {T : WSt} {S : PSt}

theorem put_ok {i cp : Nat} {a : Option Addr} {bs : Byt} (h : Log γ c d w q p T S) (hi : i < S.all.length) (hr : Row w a 64 (u8s bs)) (hlen : bs.length = 64) (hok : Okb bs) :
    Ret Try.prog 105 #[.pointer (some ⟨q, 0, none⟩), .int .i64 (i : Int), .slice a 64 cp] w fun v w' => v = .int .i64 0 ∧ ∃ γ', Ext γ γ' (· = c) w w' ∧ Log γ' c d w' q p T (S.write i bs).sync := by
  have hq := h.wa
  refine Ret_of_X 23 Try.func105 rfl Try.ntmps105 rfl rfl ?_
  refine XC_seq rfl ?_
  refine XC_region rfl ?_
  refine o_as (.int _ _) rfl rfl rfl rfl ?_
  refine XO_end rfl ?_
  refine thenX_normal ?_
  refine XC_seq rfl ?_
  refine XC_seq rfl ?_
  refine XC_region rfl ?_
  refine o_mv (.pointer _) rfl rfl rfl rfl ?_
  refine o_nilc rfl rfl rfl rfl ?_
  refine o_fa0 0 rfl rfl rfl Try.underlying104 rfl Try.sizeOf24 rfl rfl rfl ?_
  refine o_ldB (.pointer _) rfl rfl rfl Try.isAgg24 rfl (by assumption) rfl ?_
  refine o_mv (.int _ _) rfl rfl rfl rfl ?_
  refine o_mv (.slice _ _ _) rfl rfl rfl rfl ?_
  refine XO_stepd rfl rfl rfl rfl (m_call Try.call59 (Write_ok h.pl h.c0 hi hr hlen hok) rfl ?_)
  rintro _ w1 ⟨rfl, γ1, he1, hp1⟩
  have h1 := h.plate he1 hp1 rfl
  have hq1 := h1.wa
  refine o_as (.int _ _) rfl rfl rfl rfl ?_
  refine XO_end rfl ?_
  refine thenX_normal ?_
  refine XC_seq rfl ?_
  refine XC_region rfl ?_
  refine o_mv (.int _ _) rfl rfl rfl rfl ?_
  refine o_neq rfl rfl rfl rfl rfl ?_
  refine XO_end rfl ?_
  refine thenX_normal ?_
  refine XC_cond_false rfl rfl ?_
  refine XC_skip rfl ?_
  refine thenX_normal ?_
  refine XC_seq rfl ?_
  refine XC_region rfl ?_
  refine o_mv (.pointer _) rfl rfl rfl rfl ?_
  refine o_nilc rfl rfl rfl rfl ?_
  refine o_fa0 0 rfl rfl rfl Try.underlying104 rfl Try.sizeOf24 rfl rfl rfl ?_
  refine o_ldB (.pointer _) rfl rfl rfl Try.isAgg24 rfl (by assumption) rfl ?_
  refine XO_stepd rfl rfl rfl rfl (m_call Try.call62 (Sync_ok h1.pl h.c0) rfl ?_)
  rintro _ w2 ⟨rfl, γ2, he2, hp2⟩
  have h2 := h1.plate he2 hp2 (sync_len _)
  refine o_as (.int _ _) rfl rfl rfl rfl ?_
  refine XO_end rfl ?_
  refine thenX_normal ?_
  refine XC_ret rfl ?_
  refine topX_ret ?_
  refine RetV_of (.int _ _) rfl ?_
  exact ⟨rfl, γ2, he1.trans he2, h2⟩

noncomputable def begun (S : PSt) (n l pl f : Nat) : PSt := (((S.write (n % 2) noughts).sync).write (n % 2) (headB n l pl f)).sync
theorem begin_ok {n l pl f : Nat} (h : Log γ c d w q p T S) (hn : n ≤ 1152921504606846977) (hpl : pl < T.size) :
    Ret Try.prog 71 #[.pointer (some ⟨q, 0, none⟩), .agg #[.int .i64 (n : Int), .int .i64 (l : Int), .int .i64 (pl : Int), .int .i64 (f : Int)]] w fun v w' => v = .int .i64 0 ∧
      ∃ γ', Ext γ γ' (fun k => k = c ∨ k = d) w w' ∧ Log γ' c d w' q p { T with number := n, life := l, place := pl, first := f } (begun S n l pl f) := by
  have hsz := h.sz
  have hpos := h.pos
  refine Ret_of_X 26 Try.func71 rfl Try.ntmps71 rfl rfl ?_
  refine XC_seq rfl ?_
  refine XC_region rfl ?_
  refine XO_stepd rfl rfl rfl rfl (m_box (.agg _) [.int _ _, .int _ _, .int _ _, .int _ _] rfl rfl ?_)
  intro w1 hc1 hs1 hB1
  refine o_as (.int _ _) rfl rfl rfl rfl ?_
  refine XO_end rfl ?_
  refine thenX_normal ?_
  refine XC_seq rfl ?_
  refine XC_region rfl ?_
  refine o_fa0 0 rfl rfl rfl Try.underlying102 rfl Try.sizeOf3 rfl rfl rfl ?_
  refine o_ldB (.int _ _) rfl rfl rfl Try.isAgg3 rfl (by assumption) rfl ?_
  refine o_and (((n % 2 : Nat) : Int)) rfl rfl rfl rfl rfl (and1 hn) ?_
  refine o_as (.int _ _) rfl rfl rfl rfl ?_
  refine XO_end rfl ?_
  refine thenX_normal ?_
  refine XC_seq rfl ?_
  refine XC_seq rfl ?_
  refine XC_region rfl ?_
  refine o_mv (.pointer _) rfl rfl rfl rfl ?_
  refine o_mv (.int _ _) rfl rfl rfl rfl ?_
  refine XO_stepd rfl rfl rfl rfl (m_mksl (bytes := 1) (64) (64) Try.underlying28 Try.typeInfo5 rfl rfl rfl rfl rfl rfl (by first | rfl | omega) (by first | rfl | omega) (by omega) (by omega) (by omega) ?_)
  intro w2 hc2 hs2 hB2
  have hc02 := hc1.trans hc2
  have e2 : Ext γ (recol γ w.heap.size (fun _ => False) 0) (fun _ => False) w w2 := Ext.recol hc02
  have hr0 : ∀ k, w.heap.size ≤ k → recol γ w.heap.size (fun _ => False) 0 k = 0 := fun k hk => recol_out hk id
  generalize recol γ w.heap.size (fun _ => False) 0 = γ2 at e2 hr0
  have h2 := h.ext e2 id id id
  have hrow : Row w2 (some ⟨w1.heap.size, 0, none⟩) 64 (u8s noughts) := Row.of_at hB2 (by simp [u8s_len, noughts]) (fun j v h => by simpa [u8s, noughts] using h)
  refine XO_stepd rfl rfl rfl rfl (m_call Try.call105 (put_ok h2 (by omega) hrow noughts_len noughts_ok) rfl ?_)
  rintro _ w3 ⟨rfl, γ3, he3, h3⟩
  have hB13 := (hB1.keep hc2 (fun x => x)).keep he3.chg (by rw [hr0 _ (Nat.le_refl _)]; exact fun x => h.c0 x.symm)
  refine o_as (.int _ _) rfl rfl rfl rfl ?_
  refine XO_end rfl ?_
  refine thenX_normal ?_
  refine XC_seq rfl ?_
  refine XC_region rfl ?_
  refine o_mv (.int _ _) rfl rfl rfl rfl ?_
  refine o_neq rfl rfl rfl rfl rfl ?_
  refine XO_end rfl ?_
  refine thenX_normal ?_
  refine XC_cond_false rfl rfl ?_
  have hq3 := h3.wa
  refine XC_skip rfl ?_
  refine thenX_normal ?_
  refine XC_seq rfl ?_
  refine XC_region rfl ?_
  refine o_mv (.pointer _) rfl rfl rfl rfl ?_
  refine o_ldN ([.int .i64 (n : Int), .int .i64 (l : Int), .int .i64 (pl : Int), .int .i64 (f : Int)]) rfl rfl rfl Try.isAgg102 Try.sizeOf102 rfl rfl (At.cellsN hB13 rfl) ?_
  refine o_nilc rfl rfl rfl rfl ?_
  refine o_fa0 2 rfl rfl rfl Try.underlying104 rfl Try.sizeOf102 rfl rfl rfl ?_
  refine XO_stepn rfl rfl rfl (m_stA [.int _ _, .int _ _, .int _ _, .int _ _] Try.sizeOf102 rfl rfl rfl (by simp [Value.oneCell']) hq3 (by simp) ?_)
  intro w4 hc4 hs4 hB4
  refine XO_end rfl ?_
  refine thenX_normal ?_
  obtain ⟨he4, hp4⟩ := h3.own hc4
  have h4 : Log γ3 c d w4 q p { T with number := n, life := l, place := pl, first := f } ((S.write (n % 2) noughts).sync) := { h3 with pl := hp4, wa := by simpa [walC, walK, over] using hB4, place := hpl }
  have hB14 := hB13.keep hc4 (by show ¬ w.heap.size = q; have := h.wa.lt; omega)
  refine XC_seq rfl ?_
  refine XC_region rfl ?_
  refine o_mv (.pointer _) rfl rfl rfl rfl ?_
  refine o_mv (.int _ _) rfl rfl rfl rfl ?_
  refine o_ldN ([.int .i64 (n : Int), .int .i64 (l : Int), .int .i64 (pl : Int), .int .i64 (f : Int)]) rfl rfl rfl Try.isAgg102 Try.sizeOf102 rfl rfl (At.cellsN hB14 rfl) ?_
  refine XO_stepd rfl rfl rfl rfl (m_call Try.call103 (headBytes_ok) rfl ?_)
  rintro _ w5 ⟨⟨a5, c5, rfl, ho5⟩, hc5⟩
  rw [headB_len] at ho5
  rw [headB_len]
  have h5 := h4.no hc5
  refine XO_stepd rfl rfl rfl rfl (m_call Try.call105 (put_ok h5 (by rw [sync_len, write_all]; omega) (Row.of_own ho5) (headB_len _ _ _ _) (headB_ok _ _ _ _)) rfl ?_)
  rintro _ w6 ⟨rfl, γ6, he6, h6⟩
  refine o_as (.int _ _) rfl rfl rfl rfl ?_
  refine XO_end rfl ?_
  refine thenX_normal ?_
  refine XC_ret rfl ?_
  refine topX_ret ?_
  refine RetV_of (.int _ _) rfl ?_
  exact ⟨rfl, γ6, (((e2.mono (fun _ x => x.elim)).trans (he3.mono (fun _ x => .inl x))).trans he4).trans ((Ext.ofNo hc5).trans (he6.mono (fun _ x => .inl x))), h6⟩

/-- A log of a plate of noughts. -/
theorem fresh_ok (h : Log γ c d w q p T S) (hz : ∀ i < S.all.length, S.get i = noughts) :
    Ret Try.prog 68 #[.pointer (some ⟨q, 0, none⟩)] w fun v w' => v = .tuple #[.pointer (some ⟨q, 0, none⟩), .slice none 0 0, .int .i64 0] ∧
      ∃ γ', Ext γ γ' (fun k => k = c ∨ k = d) w w' ∧ Log γ' c d w' q p { T with number := 1, life := 1, place := 0, first := 1, next := 1 } (begun S 1 1 0 1) := by
  have hsz := h.sz
  have hpos := h.pos
  have hln := h.pl.len
  have hq0 := h.wa
  refine Ret_of_X 40 Try.func68 rfl Try.ntmps68 rfl rfl ?_
  refine XC_seq rfl ?_
  refine XC_region rfl ?_
  refine o_as (.pointer _) rfl rfl rfl rfl ?_
  refine o_as (.slice _ _ _) rfl rfl rfl rfl ?_
  refine o_as (.int _ _) rfl rfl rfl rfl ?_
  refine XO_end rfl ?_
  refine thenX_normal ?_
  refine XC_seq rfl ?_
  refine XC_seq rfl ?_
  refine XC_region rfl ?_
  refine o_mv (.pointer _) rfl rfl rfl rfl ?_
  refine o_nilc rfl rfl rfl rfl ?_
  refine o_fa0 0 rfl rfl rfl Try.underlying104 rfl Try.sizeOf24 rfl rfl rfl ?_
  refine o_ldB (.pointer _) rfl rfl rfl Try.isAgg24 rfl (by assumption) rfl ?_
  refine XO_stepd rfl rfl rfl rfl (m_call Try.call11 (Sectors_ok h.pl) rfl ?_)
  rintro _ _ ⟨rfl, rfl⟩
  refine o_mv (.int _ _) rfl rfl rfl rfl ?_
  refine XO_end rfl ?_
  refine thenX_normal ?_
  refine XC_block (id := 0) rfl ?_
  refine XC_loop (fun m l w' => ∃ k : Nat, l = [(0, .pointer (some ⟨q, 0, none⟩)), (12, .int .i64 (S.all.length : Int)), (13, .int .i64 (k : Int))] ∧ k ≤ S.all.length ∧ m = S.all.length - k ∧ Chg No w w') rfl (S.all.length) [(0, .pointer (some ⟨q, 0, none⟩)), (12, .int .i64 (S.all.length : Int)), (13, .int .i64 ((0 : Nat) : Int))] ?_ ?_ ?_
  · exact Agrees.cons rfl (Agrees.cons rfl (Agrees.cons rfl (Agrees.nil _)))
  · exact ⟨0, rfl, by omega, rfl, Chg.refl _ _⟩
  intro m l wr g ⟨k, hl, hk, hm, hcw⟩
  subst hl
  refine XC_seq rfl ?_
  refine XC_region rfl ?_
  refine o_lss rfl rfl rfl rfl rfl ?_
  refine XO_end rfl ?_
  refine thenX_normal ?_
  refine XC_seq rfl ?_
  refine XC_cond rfl rfl (fun hlt => ?_) (fun hlt => ?_)
  · try simp only [decide_eq_true_eq, decide_eq_false_iff_not, Int.not_lt, Int.not_le, ne_eq, Decidable.not_not, gt_iff_lt, ge_iff_le] at hlt
    have hlt' : k < S.all.length := by omega
    have hlog := h.no hcw
    have hq := hlog.wa
    refine XC_skip rfl ?_
    refine thenX_normal ?_
    refine XC_seq rfl ?_
    refine XC_block (id := 1) rfl ?_
    refine XC_seq rfl ?_
    refine XC_region rfl ?_
    refine o_mv (.int _ _) rfl rfl rfl rfl ?_
    refine o_as (.int _ _) rfl rfl rfl rfl ?_
    refine XO_end rfl ?_
    refine thenX_normal ?_
    refine XC_seq rfl ?_
    refine XC_region rfl ?_
    refine o_mv (.pointer _) rfl rfl rfl rfl ?_
    refine o_nilc rfl rfl rfl rfl ?_
    refine o_fa0 0 rfl rfl rfl Try.underlying104 rfl Try.sizeOf24 rfl rfl rfl ?_
    refine o_ldB (.pointer _) rfl rfl rfl Try.isAgg24 rfl (by assumption) rfl ?_
    refine o_mv (.int _ _) rfl rfl rfl rfl ?_
    refine XO_stepd rfl rfl rfl rfl (m_call Try.call66 (Read_ok hlog.pl hlt') rfl ?_)
    rintro _ w3 ⟨a3, c3, rfl, ho3, hc3, hl3, hok3⟩
    refine o_mv (.tuple _) rfl rfl rfl rfl ?_
    refine o_ext (.slice _ _ _) rfl rfl rfl rfl rfl ?_
    refine o_ext (.int _ _) rfl rfl rfl rfl rfl ?_
    refine o_as (.slice _ _ _) rfl rfl rfl rfl ?_
    refine o_as (.int _ _) rfl rfl rfl rfl ?_
    refine XO_end rfl ?_
    refine thenX_normal ?_
    refine XC_seq rfl ?_
    refine XC_region rfl ?_
    refine o_mv (.int _ _) rfl rfl rfl rfl ?_
    refine o_neq rfl rfl rfl rfl rfl ?_
    refine o_mv (.bool _) rfl rfl rfl rfl ?_
    refine o_mv (.slice _ _ _) rfl rfl rfl rfl ?_
    refine XO_stepd rfl rfl rfl rfl (m_call Try.call104 (nought_ok (Row.of_own ho3) hok3) rfl ?_)
    rintro _ w4 ⟨rfl, hc4⟩
    rw [hz k hlt', decide_eq_true rfl]
    refine o_not rfl rfl rfl rfl ?_
    refine o_pick0 (.bool _) rfl rfl rfl rfl rfl ?_
    refine XO_end rfl ?_
    refine thenX_normal ?_
    refine XC_cond_false rfl rfl ?_
    refine XC_skip rfl ?_
    refine inBlockX_normal ?_
    refine thenX_normal ?_
    refine XC_region rfl ?_
    refine o_add _ rfl rfl rfl rfl rfl (in64 (by omega) (by omega)) ?_
    refine o_mv (.int _ _) rfl rfl rfl rfl ?_
    refine XO_end rfl ?_
    refine thenX_normal ?_
    exact ⟨S.all.length - (k + 1), [(0, .pointer (some ⟨q, 0, none⟩)), (12, .int .i64 (S.all.length : Int)), (13, .int .i64 ((k : Int) + 1))], by omega, Agrees.cons rfl (Agrees.cons rfl (Agrees.cons rfl (Agrees.nil _))), ⟨k + 1, rfl, by omega, rfl, (hcw.trans hc3).trans hc4⟩⟩
  · try simp only [decide_eq_true_eq, decide_eq_false_iff_not, Int.not_lt, Int.not_le, ne_eq, Decidable.not_not, gt_iff_lt, ge_iff_le] at hlt
    have hlog := h.no hcw
    have hq := hlog.wa
    refine XC_exit rfl ?_
    refine thenX_exit ?_
    refine thenX_exit ?_
    refine inBlockX_here ?_
    refine thenX_normal ?_
    refine XC_seq rfl ?_
    refine XC_region rfl ?_
    refine o_mv (.pointer _) rfl rfl rfl rfl ?_
    refine o_nilc rfl rfl rfl rfl ?_
    refine o_fa0 6 rfl rfl rfl Try.underlying104 rfl Try.sizeOf3 rfl rfl rfl ?_
    refine XO_stepn rfl rfl rfl (m_st (.int _ _) Try.sizeOf3 rfl rfl rfl (by assumption) (by first | decide | (simp; done) | omega | (simp; omega)) ?_)
    intro w3 hc3 hs3 hB3
    refine XO_end rfl ?_
    refine thenX_normal ?_
    obtain ⟨he3, hp3⟩ := hlog.own hc3
    have h3 : Log γ c d w3 q p { T with next := 1 } S := { hlog with pl := hp3, wa := by simpa [walC, walK] using hB3, next := by show (1 : Nat) ≤ _; omega }
    refine XC_seq rfl ?_
    refine XC_region rfl ?_
    refine o_mv (.pointer _) rfl rfl rfl rfl ?_
    refine o_mv (.pointer _) rfl rfl rfl rfl ?_
    refine o_build (pl := [(0, 1), (1, 1), (2, 1), (3, 1)]) [.int _ _, .int _ _, .int _ _, .int _ _] rfl rfl rfl (by kernel_rfl) Try.zeroValue102 rfl rfl ?_
    refine XO_stepd rfl rfl rfl rfl (m_call Try.call71 (begin_ok (n := 1) (l := 1) (pl := 0) (f := 1) h3 (by omega) (by show 0 < T.size; omega)) rfl ?_)
    rintro _ w4 ⟨rfl, γ4, he4, h4⟩
    refine o_as (.pointer _) rfl rfl rfl rfl ?_
    refine o_as (.slice _ _ _) rfl rfl rfl rfl ?_
    refine o_as (.int _ _) rfl rfl rfl rfl ?_
    refine XO_end rfl ?_
    refine thenX_normal ?_
    refine XC_ret rfl ?_
    refine topX_ret ?_
    refine RetV_of (.tuple #[.pointer _, .slice _ _ _, .int _ _]) rfl ?_
    exact ⟨rfl, γ4, ((Ext.ofNo hcw).trans he3).trans he4, h4⟩
end
end Go.Proofs.Ytijjnlfmlcbfpaa

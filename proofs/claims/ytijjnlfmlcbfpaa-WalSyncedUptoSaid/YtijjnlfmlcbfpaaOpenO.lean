/- Opening a plate that has a log: the walk. -/
import Derived.Test.YtijjnlfmlcbfpaaOpen
set_option linter.unusedVariables false
set_option maxRecDepth 4000
namespace Go.Proofs.Ytijjnlfmlcbfpaa
open Go

/-- The log behind the reading of its records. -/
def readW (T0 : WSt) (rs : List Byt) : WSt := { T0 with used := needs rs, next := T0.first + rs.length }
def scanS (S : PSt) (T0 : WSt) : List Byt := scan (fun i => S.get (secN T0 i)) T0.size (T0.size + 1) 0 T0.first
noncomputable def cleaned (S : PSt) (T0 : WSt) (rs : List Byt) : PSt := (cleanS (readW T0 rs) S (T0.size - needs rs)).sync

theorem own_le {w : World} {base e n c : Nat} {a : Option Addr} {xs : List Value} (h : w.ownsRow base e 1 (.slice a n c) n xs) : n ≤ c := by
  rcases h.2 with ⟨_, h0⟩ | ⟨g, cap, cur, hv, _, _, hle, _⟩
  · omega
  · injection hv with _ _ e3; omega
theorem Got.text {n : Nat} {γ : Nat → Nat} {w : World} {u : Value} {b : Byt} (h : Got n w u b) (hg : ∀ k, n ≤ k → γ k = 0) : TextZ γ w u b :=
  let ⟨a, k, e, o, x⟩ := h; ⟨some a, k, e, ⟨Row.of_own o, fun j _ hb => hg j (own_blk o j hb).1⟩, own_le o, x⟩
theorem Got.no {n : Nat} {w w' : World} {u : Value} {b : Byt} (h : Got n w u b) (c : Chg No w w') : Got n w' u b :=
  let ⟨a, k, e, o, x⟩ := h; ⟨a, k, e, own_keep o c (fun _ _ x => x), x⟩
theorem Got.lower {n m : Nat} {w : World} {u : Value} {b : Byt} (h : Got n w u b) (hm : m ≤ n) : Got m w u b :=
  let ⟨a, k, e, o, x⟩ := h; ⟨a, k, e, own_lower o hm, x⟩
theorem Got.app {n n' l c : Nat} {w w' : World} {u : Value} {b : Byt} {a1 : Option Addr} {vs : List Value} (h : Got n w u b) (ho : w.ownsRow n' 28 1 (.slice a1 l c) l vs) (hc : Chg (isBlk a1) w w') : Got n w' u b :=
  let ⟨a, k, e, o, x⟩ := h; ⟨a, k, e, own_keep o hc (fun j hj hb => own_apart o ho (by decide) j (by simp [Value.ownBlock] at hj; exact ⟨a, rfl, hj⟩) hb), x⟩

section
variable {γ : Nat → Nat} {c d : Nat} {w : World} {p : Nat} {S : PSt}

theorem Open_old {T0 : WSt} {rs0 : List Byt} (h : PlAt γ c w p S) (h6 : 6 ≤ S.all.length) (c0 : c ≠ 0) (d0 : d ≠ 0) (cd : c ≠ d) (hT : headsT S 2 = T0) (hrs : scanS S T0 = rs0) (hn0 : T0.number ≠ 0)
    (hn : T0.number < 1152921504606846976) (hl : T0.life < 1152921504606846976) (hf : T0.first + T0.size < 1152921504606846976) :
    Ret Try.prog 18 #[.pointer (some ⟨p, 0, none⟩)] w fun v w' => ∃ q γ' rv, v = .tuple #[.pointer (some ⟨q, 0, none⟩), rv, .int .i64 0] ∧ w.heap.size ≤ q ∧ Ext γ γ' (fun k => k = c ∨ k = d) w w' ∧
      Log γ' c d w' q p { readW T0 rs0 with number := T0.number + 1, life := T0.life + 1 } (begun (cleaned S T0 rs0) (T0.number + 1) (T0.life + 1) T0.place T0.first) ∧ TextsZ γ' w' rv rs0 := by
  have hln := h.len
  refine Ret_of_X 179 Try.func18 rfl Try.ntmps18 rfl rfl ?_
  refine XC_seq rfl ?_
  refine XC_region rfl ?_
  refine o_as (.pointer _) rfl rfl rfl rfl ?_
  refine o_as (.slice _ _ _) rfl rfl rfl rfl ?_
  refine o_as (.int _ _) rfl rfl rfl rfl ?_
  refine XO_end rfl ?_
  refine thenX_normal ?_
  refine XC_seq rfl ?_
  refine XC_seq rfl ?_
  refine XC_region rfl ?_
  refine o_mv (.pointer _) rfl rfl rfl rfl ?_
  refine XO_stepd rfl rfl rfl rfl (m_call Try.call11 (Sectors_ok h) rfl ?_)
  rintro _ _ ⟨rfl, rfl⟩
  refine o_eql rfl rfl rfl rfl rfl ?_
  refine XO_end rfl ?_
  refine thenX_normal ?_
  refine XC_cond rfl rfl (fun hb => ?_) (fun hb => ?_)
  · exfalso; rw [decide_eq_true_eq] at hb; omega
  refine XC_skip rfl ?_
  refine thenX_normal ?_
  refine XC_seq rfl ?_
  refine XC_seq rfl ?_
  refine XC_region rfl ?_
  refine o_mv (.pointer _) rfl rfl rfl rfl ?_
  refine XO_stepd rfl rfl rfl rfl (m_call Try.call65 (Failed_ok h) rfl ?_)
  rintro _ _ ⟨rfl, rfl⟩
  refine XO_end rfl ?_
  refine thenX_normal ?_
  refine XC_cond_false rfl rfl ?_
  refine XC_skip rfl ?_
  refine thenX_normal ?_
  refine XC_seq rfl ?_
  refine XC_seq rfl ?_
  refine XC_region rfl ?_
  refine o_mv (.pointer _) rfl rfl rfl rfl ?_
  refine XO_stepd rfl rfl rfl rfl (m_call Try.call11 (Sectors_ok h) rfl ?_)
  rintro _ _ ⟨rfl, rfl⟩
  refine o_lss rfl rfl rfl rfl rfl ?_
  refine XO_end rfl ?_
  refine thenX_normal ?_
  refine XC_cond rfl rfl (fun hb => ?_) (fun hb => ?_)
  · exfalso; rw [decide_eq_true_eq] at hb; omega
  refine XC_skip rfl ?_
  refine thenX_normal ?_
  refine XC_seq rfl ?_
  refine XC_region rfl ?_
  refine o_mv (.pointer _) rfl rfl rfl rfl ?_
  refine o_mv (.pointer _) rfl rfl rfl rfl ?_
  refine XO_stepd rfl rfl rfl rfl (m_call Try.call11 (Sectors_ok h) rfl ?_)
  rintro _ _ ⟨rfl, rfl⟩
  refine o_sub _ rfl rfl rfl rfl rfl (in64 (by omega) (by omega)) ?_
  refine o_build (pl := [(0, 1), (1, 1), (2, 4), (6, 1), (7, 1)]) [.pointer _, .int _ _, .int _ _, .int _ _, .int _ _, .int _ _, .int _ _, .int _ _] rfl rfl rfl (by kernel_rfl) Try.zeroValue104 rfl rfl ?_
  refine XO_stepd rfl rfl rfl rfl (m_box (.agg _) [.pointer _, .int _ _, .int _ _, .int _ _, .int _ _, .int _ _, .int _ _, .int _ _] rfl rfl ?_)
  intro w2 hc2 hs2 hB2
  have e2 : Ext γ (recol γ w.heap.size (fun k => k = w.heap.size) d) (fun _ => False) w w2 := Ext.recol hc2
  have hgq : recol γ w.heap.size (fun k => k = w.heap.size) d w.heap.size = d := recol_in (Nat.le_refl _) rfl
  have hg0 : ∀ k, w2.heap.size ≤ k → recol γ w.heap.size (fun k => k = w.heap.size) d k = 0 := fun k hk => recol_out (by omega) (by omega)
  generalize recol γ w.heap.size (fun k => k = w.heap.size) d = γ2 at e2 hgq hg0
  have h2 : Log γ2 c d w2 w.heap.size p (headsT S 0) S :=
    { pl := h.ext e2 id id, gq := hgq, sz := by show S.all.length = S.all.length - 2 + 2; omega, pos := by show 1 ≤ S.all.length - 2; omega, place := by show 0 < S.all.length - 2; omega, used := by show 0 ≤ _; omega, next := by show 0 ≤ _; omega, c0 := c0, d0 := d0, cd := cd
      wa := by have e : ((S.all.length - 2 : Nat) : Int) = (S.all.length : Int) - 2 := by omega
               simpa [headsT, walC, walK, e] using hB2 }
  refine o_as (.pointer _) rfl rfl rfl rfl ?_
  refine XO_end rfl ?_
  refine thenX_normal ?_
  refine XC_seq rfl ?_
  refine XC_seq rfl ?_
  refine XC_region rfl ?_
  refine o_mv (.int _ _) rfl rfl rfl rfl ?_
  refine XO_end rfl ?_
  refine thenX_normal ?_
  refine XC_block (id := 0) rfl ?_
  refine XC_loop (fun m l w' => ∃ k : Nat, l = [(0, .pointer (some ⟨p, 0, none⟩)), (5, .pointer (some ⟨w.heap.size, 0, none⟩)), (29, .int .i64 (k : Int))] ∧ k ≤ 2 ∧ m = 2 - k ∧ Ext γ2 γ2 (· = d) w2 w' ∧ Log γ2 c d w' w.heap.size p (headsT S k) S) rfl (2) [(0, .pointer (some ⟨p, 0, none⟩)), (5, .pointer (some ⟨w.heap.size, 0, none⟩)), (29, .int .i64 ((0 : Nat) : Int))] ?_ ?_ ?_
  · exact Agrees.cons rfl (Agrees.cons rfl (Agrees.cons rfl (Agrees.nil _)))
  · exact ⟨0, rfl, by omega, rfl, Ext.refl _ _ _, h2⟩
  intro m l wr g ⟨k, hl', hk, hm, he, hlog⟩
  subst hl'
  refine XC_seq rfl ?_
  refine XC_region rfl ?_
  refine o_lss rfl rfl rfl rfl rfl ?_
  refine XO_end rfl ?_
  refine thenX_normal ?_
  refine XC_seq rfl ?_
  refine XC_cond rfl rfl (fun hlt => ?_) (fun hlt => ?_)
  · try simp only [decide_eq_true_eq, decide_eq_false_iff_not, Int.not_lt, Int.not_le, ne_eq, Decidable.not_not, gt_iff_lt, ge_iff_le] at hlt
    have hlt' : k < 2 := by omega
    have hkeep := headsT_keep S k
    refine XC_skip rfl ?_
    refine thenX_normal ?_
    refine XC_seq rfl ?_
    refine XC_block (id := 1) rfl ?_
    refine XC_seq rfl ?_
    refine XC_region rfl ?_
    refine o_mv (.int _ _) rfl rfl rfl rfl ?_
    refine o_as (.int _ _) rfl rfl rfl rfl ?_
    refine XO_end rfl ?_
    refine thenX_normal ?_
    refine XC_seq rfl ?_
    refine XC_region rfl ?_
    refine o_mv (.pointer _) rfl rfl rfl rfl ?_
    refine o_mv (.int _ _) rfl rfl rfl rfl ?_
    refine XO_stepd rfl rfl rfl rfl (m_call Try.call66 (Read_ok (i := k) hlog.pl (by omega)) rfl ?_)
    rintro _ w3 ⟨a3, c3, rfl, ho3, hc3, hl3, hok3⟩
    refine o_mv (.tuple _) rfl rfl rfl rfl ?_
    refine o_ext (.slice _ _ _) rfl rfl rfl rfl rfl ?_
    refine o_ext (.int _ _) rfl rfl rfl rfl rfl ?_
    refine o_as (.slice _ _ _) rfl rfl rfl rfl ?_
    refine o_as (.int _ _) rfl rfl rfl rfl ?_
    refine XO_end rfl ?_
    refine thenX_normal ?_
    refine XC_seq rfl ?_
    refine XC_seq rfl ?_
    refine XC_region rfl ?_
    refine o_mv (.int _ _) rfl rfl rfl rfl ?_
    refine o_neq rfl rfl rfl rfl rfl ?_
    refine XO_end rfl ?_
    refine thenX_normal ?_
    refine XC_cond_false rfl rfl ?_
    have hc64 : 64 ≤ c3 := own_cap ho3 (by omega)
    have hq3 : At w3 w.heap.size (.cells (walC p (headsT S k)) 104 (0, 0)) := hlog.wa.keep hc3 (fun x => x)
    refine XC_skip rfl ?_
    refine thenX_normal ?_
    refine XC_seq rfl ?_
    refine XC_region rfl ?_
    refine o_mv (.slice _ _ _) rfl rfl rfl rfl ?_
    refine o_mv (.int _ _) rfl rfl rfl rfl ?_
    refine o_mv (.pointer _) rfl rfl rfl rfl ?_
    refine o_nilc rfl rfl rfl rfl ?_
    refine o_fa0 1 rfl rfl rfl Try.underlying104 rfl Try.sizeOf3 rfl rfl rfl ?_
    refine o_ldB (.int _ _) rfl rfl rfl Try.isAgg3 rfl (by assumption) rfl ?_
    refine XO_stepd rfl rfl rfl rfl (m_call Try.call67 (parse_ok (size := (headsT S k).size) (Row.of_own ho3) hok3 hc64 (by omega) (by omega)) rfl ?_)
    rintro _ w4 ⟨h0, h1, hp2, hp3, ok, rfl, hc4, hiff, hval⟩
    refine o_mv (.tuple _) rfl rfl rfl rfl ?_
    refine o_ext (.agg _) rfl rfl rfl rfl rfl ?_
    refine o_ext (.bool _) rfl rfl rfl rfl rfl ?_
    refine XO_stepd rfl rfl rfl rfl (m_alloc [.int _ _, .int _ _, .int _ _, .int _ _] Try.zeroValue102 rfl ?_)
    intro w5 hc5 hs5 hB5
    refine XO_stepn rfl rfl rfl (m_stA [.int _ _, .int _ _, .int _ _, .int _ _] Try.sizeOf102 rfl rfl rfl (by simp [Value.oneCell']) (by assumption) (by simp) ?_)
    intro w6 hc6 hs6 hB6
    have hN6 : Chg No wr w6 := ((hc3.trans hc4).trans hc5).then hc6 (fun _ _ h => h) (fun i hi e => by have := (hc3.trans hc4).size; omega)
    have hlog6 := hlog.no hN6
    have hq6 := hlog6.wa
    have hB9 : At w6 w4.heap.size (.cells #[.int .i64 h0, .int .i64 h1, .int .i64 hp2, .int .i64 hp3] 102 (0, 0)) := by simpa [over] using hB6
    refine o_as (.bool _) rfl rfl rfl rfl ?_
    refine XO_end rfl ?_
    refine thenX_normal ?_
    refine XC_cut (fun l w' => ∃ (take : Bool), l = [(0, .pointer (some ⟨p, 0, none⟩)), (5, .pointer (some ⟨w.heap.size, 0, none⟩)), (9, .pointer (some ⟨w4.heap.size, 0, none⟩)), (29, .int .i64 (k : Int)), (61, .bool take)] ∧ Chg No w6 w' ∧ (take = true ↔ ok = true ∧ ((headsT S k).number : Int) < h0)) rfl ?_ ?_
    · refine XC_draw (fun w' => At w' w.heap.size (.cells (walC p (headsT S k)) 104 (0, 0)) ∧ At w' w4.heap.size (.cells #[.int .i64 h0, .int .i64 h1, .int .i64 hp2, .int .i64 hp3] 102 (0, 0))) Trymixed rfl 11 rfl ?_
      intro w7 hN7 hh7
      have hS := And.intro (hq6.keep hN7 (fun x => x)) (hB9.keep hN7 (fun x => x))
      refine q_mv (i := 0) (.bool _) rfl rfl rfl (by kernel_rfl) rfl (fun _ => ?_) hS
      refine q_mv (i := 1) (.bool _) rfl rfl rfl (by kernel_rfl) rfl (fun _ => ?_) hS
      refine XH_bool 52 rfl (fun h52 => ?_) (fun h52 => ?_)
      · try simp only [decide_eq_true_eq, decide_eq_false_iff_not, Int.not_lt, Int.not_le, ne_eq, Decidable.not_not, gt_iff_lt, ge_iff_le] at h52
        refine q_fa0 (i := 2) 0 rfl rfl rfl (by kernel_rfl) Try.underlying102 rfl Try.sizeOf3 rfl rfl rfl (fun _ => ?_) hS
        refine q_ld (i := 3) (.int _ _) rfl rfl rfl (by kernel_rfl) Try.isAgg3 rfl (fun _ h => by rw [h.2.cell]; rfl) (fun _ => ?_) hS
        refine q_mv (i := 4) (.pointer _) rfl rfl rfl (by kernel_rfl) rfl (fun _ => ?_) hS
        refine q_nilc (i := 5) rfl rfl rfl (by kernel_rfl) rfl (fun _ => ?_) hS
        refine q_fa0 (i := 6) 2 rfl rfl rfl (by kernel_rfl) Try.underlying104 rfl Try.sizeOf102 rfl rfl rfl (fun _ => ?_) hS
        refine q_fa (i := 7) 0 rfl rfl rfl (by kernel_rfl) Try.underlying102 rfl Try.sizeOf3 rfl rfl rfl (fun _ => ?_) hS
        refine q_ld (i := 8) (.int _ _) rfl rfl rfl (by kernel_rfl) Try.isAgg3 rfl (fun _ h => by rw [h.1.cell]; rfl) (fun _ => ?_) hS
        refine q_gtr (i := 9) rfl rfl rfl (by kernel_rfl) rfl rfl (fun _ => ?_) hS
        refine q_pick1 (i := 10) (.bool _) rfl rfl rfl (by kernel_rfl) rfl rfl (fun _ => ?_) hS
        refine XH_done (by kernel_rfl) hS ?_
        refine thenX_normal ?_
        exact ⟨[(0, .pointer (some ⟨p, 0, none⟩)), (5, .pointer (some ⟨w.heap.size, 0, none⟩)), (9, .pointer (some ⟨w4.heap.size, 0, none⟩)), (29, .int .i64 (k : Int)), (61, .bool _)], Agrees.cons rfl (Agrees.cons rfl (Agrees.cons rfl (Agrees.cons rfl (Agrees.cons rfl (Agrees.nil _))))), ⟨_, rfl, hN7, by rw [decide_eq_true_eq]; exact ⟨fun x => ⟨h52, x⟩, fun x => x.2⟩⟩⟩
      · try simp only [decide_eq_true_eq, decide_eq_false_iff_not, Int.not_lt, Int.not_le, ne_eq, Decidable.not_not, gt_iff_lt, ge_iff_le] at h52
        refine XH_barred (i := 2) rfl rfl rfl rfl (by kernel_rfl) (fun _ => ?_) hS
        refine XH_barred (i := 3) rfl rfl rfl rfl (by kernel_rfl) (fun _ => ?_) hS
        refine XH_barred (i := 4) rfl rfl rfl rfl (by kernel_rfl) (fun _ => ?_) hS
        refine XH_barred (i := 5) rfl rfl rfl rfl (by kernel_rfl) (fun _ => ?_) hS
        refine XH_barred (i := 6) rfl rfl rfl rfl (by kernel_rfl) (fun _ => ?_) hS
        refine XH_barred (i := 7) rfl rfl rfl rfl (by kernel_rfl) (fun _ => ?_) hS
        refine XH_barred (i := 8) rfl rfl rfl rfl (by kernel_rfl) (fun _ => ?_) hS
        refine XH_barred (i := 9) rfl rfl rfl rfl (by kernel_rfl) (fun _ => ?_) hS
        refine q_pick0 (i := 10) (.bool _) rfl rfl rfl (by kernel_rfl) rfl rfl (fun _ => ?_) hS
        refine XH_done (by kernel_rfl) hS ?_
        refine thenX_normal ?_
        exact ⟨[(0, .pointer (some ⟨p, 0, none⟩)), (5, .pointer (some ⟨w.heap.size, 0, none⟩)), (9, .pointer (some ⟨w4.heap.size, 0, none⟩)), (29, .int .i64 (k : Int)), (61, .bool _)], Agrees.cons rfl (Agrees.cons rfl (Agrees.cons rfl (Agrees.cons rfl (Agrees.cons rfl (Agrees.nil _))))), ⟨_, rfl, hN7, ⟨fun x => (by cases x), fun x => by rw [h52] at x; cases x.1⟩⟩⟩
    · intro l w7 g ⟨take, hl', hN7, htake⟩
      subst hl'
      have hlog7 := hlog6.no hN7
      have hB97 := hB9.keep hN7 (fun x => x)
      have hq7 := hlog7.wa
      have he7 := he.trans (Ext.ofNo (hN6.trans hN7))
      refine XC_cond rfl rfl (fun h61 => ?_) (fun h61 => ?_)
      · try simp only [decide_eq_true_eq, decide_eq_false_iff_not, Int.not_lt, Int.not_le, ne_eq, Decidable.not_not, gt_iff_lt, ge_iff_le] at h61
        have hok1 := htake.1 h61
        have hoh := hiff.1 hok1.1
        obtain ⟨v0, v1, v2, v3⟩ := hval hok1.1
        refine XC_region rfl ?_
        refine o_mv (.pointer _) rfl rfl rfl rfl ?_
        refine o_ldN ([.int .i64 h0, .int .i64 h1, .int .i64 hp2, .int .i64 hp3]) rfl rfl rfl Try.isAgg102 Try.sizeOf102 rfl rfl (At.cellsN hB97 rfl) ?_
        refine o_nilc rfl rfl rfl rfl ?_
        refine o_fa0 2 rfl rfl rfl Try.underlying104 rfl Try.sizeOf102 rfl rfl rfl ?_
        refine XO_stepn rfl rfl rfl (m_stA [.int _ _, .int _ _, .int _ _, .int _ _] Try.sizeOf102 rfl rfl rfl (by simp [Value.oneCell']) hq7 (by simp) ?_)
        intro w8 hc8 hs8 hB8
        refine XO_end rfl ?_
        refine inBlockX_normal ?_
        refine thenX_normal ?_
        obtain ⟨he8, hp8⟩ := hlog7.own hc8
        have heq : headsT S (k + 1) = { headsT S k with number := (numAt (S.get k) 0).toNat, life := (numAt (S.get k) 1).toNat, place := (numAt (S.get k) 2).toNat, first := (numAt (S.get k) 3).toNat } := by show stepH _ _ _ = _; unfold stepH; rw [if_pos ⟨hoh, by rw [← v0]; exact hok1.2⟩]
        have r0 := hoh.1 0 (by omega)
        have r1 := hoh.1 1 (by omega)
        have r2 := hoh.1 2 (by omega)
        have r3 := hoh.1 3 (by omega)
        have rp := hoh.2.2.2.2.2.1
        unfold inR at r0 r1 r2 r3
        have hlog8 : Log γ2 c d w8 w.heap.size p (headsT S (k + 1)) S := by
          rw [heq]
          have hwa : At w8 w.heap.size (.cells (walC p { headsT S k with number := (numAt (S.get k) 0).toNat, life := (numAt (S.get k) 1).toNat, place := (numAt (S.get k) 2).toNat, first := (numAt (S.get k) 3).toNat }) 104 (0, 0)) := by
            have e0 : (((numAt (S.get k) 0).toNat : Nat) : Int) = h0 := by rw [v0]; exact Int.toNat_of_nonneg r0.1
            have e1 : (((numAt (S.get k) 1).toNat : Nat) : Int) = h1 := by rw [v1]; exact Int.toNat_of_nonneg r1.1
            have e2 : (((numAt (S.get k) 2).toNat : Nat) : Int) = hp2 := by rw [v2]; exact Int.toNat_of_nonneg r2.1
            have e3 : (((numAt (S.get k) 3).toNat : Nat) : Int) = hp3 := by rw [v3]; exact Int.toNat_of_nonneg r3.1
            simp only [walC, walK, e0, e1, e2, e3]; simpa [over, walC, walK] using hB8
          exact { hlog7 with pl := hp8, place := by show (numAt (S.get k) 2).toNat < (headsT S k).size; omega, wa := hwa }
        refine XC_region rfl ?_
        refine o_add _ rfl rfl rfl rfl rfl (in64 (by omega) (by omega)) ?_
        refine o_mv (.int _ _) rfl rfl rfl rfl ?_
        refine XO_end rfl ?_
        refine thenX_normal ?_
        exact ⟨2 - (k + 1), [(0, .pointer (some ⟨p, 0, none⟩)), (5, .pointer (some ⟨w.heap.size, 0, none⟩)), (29, .int .i64 ((k : Int) + 1))], by omega, Agrees.cons rfl (Agrees.cons rfl (Agrees.cons rfl (Agrees.nil _))), ⟨k + 1, rfl, by omega, rfl, he7.trans ⟨hc8.mono (fun _ _ x => by subst x; exact hgq), fun _ _ => rfl⟩, hlog8⟩⟩
      · try simp only [decide_eq_true_eq, decide_eq_false_iff_not, Int.not_lt, Int.not_le, ne_eq, Decidable.not_not, gt_iff_lt, ge_iff_le] at h61
        have heq : headsT S (k + 1) = headsT S k := by show stepH _ _ _ = _; unfold stepH; rw [if_neg]; rintro ⟨x1, x2⟩; rw [htake.2 ⟨hiff.2 x1, by rw [(hval (hiff.2 x1)).1]; exact x2⟩] at h61; cases h61
        refine XC_skip rfl ?_
        refine inBlockX_normal ?_
        refine thenX_normal ?_
        refine XC_region rfl ?_
        refine o_add _ rfl rfl rfl rfl rfl (in64 (by omega) (by omega)) ?_
        refine o_mv (.int _ _) rfl rfl rfl rfl ?_
        refine XO_end rfl ?_
        refine thenX_normal ?_
        exact ⟨2 - (k + 1), [(0, .pointer (some ⟨p, 0, none⟩)), (5, .pointer (some ⟨w.heap.size, 0, none⟩)), (29, .int .i64 ((k : Int) + 1))], by omega, Agrees.cons rfl (Agrees.cons rfl (Agrees.cons rfl (Agrees.nil _))), ⟨k + 1, rfl, by omega, rfl, he7, by rw [heq]; exact hlog7⟩⟩
  · try simp only [decide_eq_true_eq, decide_eq_false_iff_not, Int.not_lt, Int.not_le, ne_eq, Decidable.not_not, gt_iff_lt, ge_iff_le] at hlt
    obtain rfl : k = 2 := by omega
    have hkeep := headsT_keep S 2
    rw [hT] at hlog hkeep
    have hq : At wr w.heap.size (.cells (walC p T0) 104 (0, 0)) := hlog.wa
    refine XC_exit rfl ?_
    refine thenX_exit ?_
    refine thenX_exit ?_
    refine inBlockX_here ?_
    refine thenX_normal ?_
    refine XC_seq rfl ?_
    refine XC_seq rfl ?_
    refine XC_region rfl ?_
    refine o_mv (.pointer _) rfl rfl rfl rfl ?_
    refine o_nilc rfl rfl rfl rfl ?_
    refine o_fa0 2 rfl rfl rfl Try.underlying104 rfl Try.sizeOf102 rfl rfl rfl ?_
    refine o_fa 0 rfl rfl rfl Try.underlying102 rfl Try.sizeOf3 rfl rfl rfl ?_
    refine o_ldB (.int _ _) rfl rfl rfl Try.isAgg3 rfl (by assumption) rfl ?_
    refine o_eql rfl rfl rfl rfl rfl ?_
    refine XO_end rfl ?_
    refine thenX_normal ?_
    refine XC_cond rfl rfl (fun hb => ?_) (fun hb => ?_)
    · exfalso; rw [decide_eq_true_eq] at hb; omega
    refine XC_skip rfl ?_
    refine thenX_normal ?_
    refine XC_seq rfl ?_
    refine XC_seq rfl ?_
    refine XC_draw (fun w' => At w' w.heap.size (.cells (walC p T0) 104 (0, 0))) Trymixed rfl 27 rfl ?_
    intro w7 hN7 hh7
    have hS := hq.keep hN7 (fun x => x)
    refine q_mv (i := 0) (.pointer _) rfl rfl rfl (by kernel_rfl) rfl (fun _ => ?_) hS
    refine q_nilc (i := 1) rfl rfl rfl (by kernel_rfl) rfl (fun _ => ?_) hS
    refine q_fa0 (i := 2) 2 rfl rfl rfl (by kernel_rfl) Try.underlying104 rfl Try.sizeOf102 rfl rfl rfl (fun _ => ?_) hS
    refine q_fa (i := 3) 0 rfl rfl rfl (by kernel_rfl) Try.underlying102 rfl Try.sizeOf3 rfl rfl rfl (fun _ => ?_) hS
    refine q_ldB (i := 4) (.int _ _) rfl rfl rfl (by kernel_rfl) Try.isAgg3 rfl (fun _ h => h) rfl (fun _ => ?_) hS
    refine q_geq (i := 5) rfl rfl rfl (by kernel_rfl) rfl rfl (fun _ => ?_) hS
    refine q_mv (i := 6) (.bool _) rfl rfl rfl (by kernel_rfl) rfl (fun _ => ?_) hS
    refine XH_bool 84 rfl (fun hb => ?_) (fun hb => ?_)
    · exfalso; rw [decide_eq_true_eq] at hb; omega
    refine q_mv (i := 7) (.pointer _) rfl rfl rfl (by kernel_rfl) rfl (fun _ => ?_) hS
    refine q_nilc (i := 8) rfl rfl rfl (by kernel_rfl) rfl (fun _ => ?_) hS
    refine q_fa0 (i := 9) 2 rfl rfl rfl (by kernel_rfl) Try.underlying104 rfl Try.sizeOf102 rfl rfl rfl (fun _ => ?_) hS
    refine q_fa (i := 10) 1 rfl rfl rfl (by kernel_rfl) Try.underlying102 rfl Try.sizeOf3 rfl rfl rfl (fun _ => ?_) hS
    refine q_ldB (i := 11) (.int _ _) rfl rfl rfl (by kernel_rfl) Try.isAgg3 rfl (fun _ h => h) rfl (fun _ => ?_) hS
    refine q_geq (i := 12) rfl rfl rfl (by kernel_rfl) rfl rfl (fun _ => ?_) hS
    refine q_pick0 (i := 13) (.bool _) rfl rfl rfl (by kernel_rfl) rfl rfl (fun _ => ?_) hS
    refine q_mv (i := 14) (.bool _) rfl rfl rfl (by kernel_rfl) rfl (fun _ => ?_) hS
    refine XH_bool 92 rfl (fun hb => ?_) (fun hb => ?_)
    · exfalso; rw [decide_eq_true_eq] at hb; omega
    refine q_mv (i := 15) (.pointer _) rfl rfl rfl (by kernel_rfl) rfl (fun _ => ?_) hS
    refine q_nilc (i := 16) rfl rfl rfl (by kernel_rfl) rfl (fun _ => ?_) hS
    refine q_fa0 (i := 17) 2 rfl rfl rfl (by kernel_rfl) Try.underlying104 rfl Try.sizeOf102 rfl rfl rfl (fun _ => ?_) hS
    refine q_fa (i := 18) 3 rfl rfl rfl (by kernel_rfl) Try.underlying102 rfl Try.sizeOf3 rfl rfl rfl (fun _ => ?_) hS
    refine q_ldB (i := 19) (.int _ _) rfl rfl rfl (by kernel_rfl) Try.isAgg3 rfl (fun _ h => h) rfl (fun _ => ?_) hS
    refine q_mv (i := 20) (.pointer _) rfl rfl rfl (by kernel_rfl) rfl (fun _ => ?_) hS
    refine q_nilc (i := 21) rfl rfl rfl (by kernel_rfl) rfl (fun _ => ?_) hS
    refine q_fa0 (i := 22) 1 rfl rfl rfl (by kernel_rfl) Try.underlying104 rfl Try.sizeOf3 rfl rfl rfl (fun _ => ?_) hS
    refine q_ldB (i := 23) (.int _ _) rfl rfl rfl (by kernel_rfl) Try.isAgg3 rfl (fun _ h => h) rfl (fun _ => ?_) hS
    refine q_sub (i := 24) _ rfl rfl rfl (by kernel_rfl) rfl rfl (in64 (by omega) (by omega)) (fun _ => ?_) hS
    refine q_geq (i := 25) rfl rfl rfl (by kernel_rfl) rfl rfl (fun _ => ?_) hS
    refine q_pick0 (i := 26) (.bool _) rfl rfl rfl (by kernel_rfl) rfl rfl (fun _ => ?_) hS
    refine XH_done (by kernel_rfl) hS ?_
    refine thenX_normal ?_
    refine XC_cond rfl rfl (fun hb => ?_) (fun hb => ?_)
    · exfalso; rw [decide_eq_true_eq] at hb; omega
    refine XC_skip rfl ?_
    refine thenX_normal ?_
    refine XC_seq rfl ?_
    refine XC_region rfl ?_
    refine o_as (.slice _ _ _) rfl rfl rfl rfl ?_
    refine XO_end rfl ?_
    refine thenX_normal ?_
    refine XC_seq rfl ?_
    refine XC_region rfl ?_
    refine o_mv (.pointer _) rfl rfl rfl rfl ?_
    refine o_mv (.pointer _) rfl rfl rfl rfl ?_
    refine o_nilc rfl rfl rfl rfl ?_
    refine o_fa0 2 rfl rfl rfl Try.underlying104 rfl Try.sizeOf102 rfl rfl rfl ?_
    refine o_fa 3 rfl rfl rfl Try.underlying102 rfl Try.sizeOf3 rfl rfl rfl ?_
    have hlog7 := hlog.no hN7
    have hq7 : At w7 w.heap.size (.cells (walC p T0) 104 (0, 0)) := hlog7.wa
    refine o_ldB (.int _ _) rfl rfl rfl Try.isAgg3 rfl (by assumption) rfl ?_
    refine o_nilc rfl rfl rfl rfl ?_
    refine o_fa0 6 rfl rfl rfl Try.underlying104 rfl Try.sizeOf3 rfl rfl rfl ?_
    refine XO_stepn rfl rfl rfl (m_st (.int _ _) Try.sizeOf3 rfl rfl rfl hq7 (by first | decide | (simp; done) | omega | (simp; omega)) ?_)
    intro w8 hc8 hs8 hB8
    refine XO_end rfl ?_
    refine thenX_normal ?_
    obtain ⟨he8, hp8⟩ := hlog7.own hc8
    have hne8 : needs ([] : List Byt) = 0 := rfl
    have hlog8 : Log γ2 c d w8 w.heap.size p (readW T0 []) S := { hlog7 with pl := hp8, used := by show needs [] ≤ T0.size; omega, next := by show T0.first + 0 ≤ _; omega, wa := by have e := hkeep.2.2; simpa [walC, walK, readW, hne8, e] using hB8 }
    have he8' : Ext γ2 γ2 (· = d) w2 w8 := (he.trans (Ext.ofNo hN7)).trans ⟨hc8.mono (fun _ _ x => by subst x; exact hgq), fun _ _ => rfl⟩
    have hg64 : ∀ i, i < T0.size → (S.get (secN T0 i)).length = 64 := fun i hi => (h.get64 (by have := secN_lt (T := T0) (i := i) (by omega); omega)).1
    have hsz8 := hlog8.sz
    have mkLog : ∀ (rs : List Byt) (w' : World), Chg (fun k => k = w.heap.size) w8 w' → At w' w.heap.size (.cells (walC p (readW T0 rs)) 104 (0, 0)) → needs rs ≤ T0.size → rs.length ≤ needs rs → Log γ2 c d w' w.heap.size p (readW T0 rs) S := fun rs w' hE hq h1 h2 =>
      { hlog8 with pl := hlog8.pl.ext (C := (· = d)) ⟨hE.mono (fun _ _ x => by subst x; exact hgq), fun _ _ => rfl⟩ (fun x => d0 x.symm) cd, wa := hq, used := h1, next := by show T0.first + rs.length ≤ _; omega }
    refine XC_seq rfl ?_
    refine XC_block (id := 2) rfl ?_
    refine XC_loop (fun m l w' => ∃ (rs : List Byt) (f : Nat) (a11 : Option Addr) (c11 : Nat) (vs : List Value), l = [(5, .pointer (some ⟨w.heap.size, 0, none⟩)), (11, .slice a11 rs.length c11)] ∧ needs rs ≤ T0.size ∧ rs.length ≤ needs rs ∧ m = T0.size - needs rs ∧ Chg (fun k => k = w.heap.size) w8 w' ∧ At w' w.heap.size (.cells (walC p (readW T0 rs)) 104 (0, 0)) ∧ w'.ownsRow w8.heap.size 28 1 (.slice a11 rs.length c11) rs.length vs ∧ (∀ (j : Nat) (u : Value) (b : Byt), vs[j]? = some u → rs[j]? = some b → Got w8.heap.size w' u b) ∧ rs ++ scan (fun i => S.get (secN T0 i)) T0.size f (needs rs) (T0.first + rs.length) = rs0 ∧ T0.size - needs rs < f) rfl (T0.size) [(5, .pointer (some ⟨w.heap.size, 0, none⟩)), (11, .slice none 0 0)] ?_ ?_ ?_
    · exact Agrees.cons rfl (Agrees.cons rfl (Agrees.nil _))
    · exact ⟨[], T0.size + 1, none, 0, [], rfl, by rw [hne8]; omega, by rw [hne8]; exact Nat.le_refl _, by rw [hne8]; rfl, Chg.refl _ _, hlog8.wa, World.ownsRow_nil _ _ _ _, fun j u b hu => (by simp at hu), hrs, by rw [hne8]; omega⟩
    intro m l wr g ⟨rs, f, a11, c11, vs, hl', hne, hrl, hm, hE, hq, hown, hgot, hsc, hfu⟩
    subst hl'
    obtain ⟨f, rfl⟩ : ∃ f', f = f' + 1 := ⟨f - 1, by omega⟩
    have hlog := mkLog rs wr hE hq hne hrl
    refine XC_block (id := 3) rfl ?_
    refine XC_seq rfl ?_
    refine XC_region rfl ?_
    refine o_mv (.pointer _) rfl rfl rfl rfl ?_
    refine o_mv (.pointer _) rfl rfl rfl rfl ?_
    refine o_nilc rfl rfl rfl rfl ?_
    refine o_fa0 7 rfl rfl rfl Try.underlying104 rfl Try.sizeOf3 rfl rfl rfl ?_
    refine o_ldB (.int _ _) rfl rfl rfl Try.isAgg3 rfl (by assumption) rfl ?_
    refine XO_stepd rfl rfl rfl rfl (m_call Try.call69 (record_two (st := needs rs) hlog hne) rfl ?_)
    rintro _ w3 ⟨a12, L12, k12, rfl, hc3, hcase⟩
    have hcase' : (a12 = none ∧ recFrom (fun i => S.get (secN T0 i)) (T0.first + rs.length) (needs rs) (T0.size - needs rs) (needs rs) [] = none) ∨ ∃ r, recFrom (fun i => S.get (secN T0 i)) (T0.first + rs.length) (needs rs) (T0.size - needs rs) (needs rs) [] = some r ∧ L12 = r.length ∧ Got wr.heap.size w3 (.slice a12 L12 k12) r ∧ 0 < r.length ∧ r.length ≤ 2000 := hcase
    clear hcase
    refine o_mv (.tuple _) rfl rfl rfl rfl ?_
    refine o_ext (.slice _ _ _) rfl rfl rfl rfl rfl ?_
    refine o_ext (.int _ _) rfl rfl rfl rfl rfl ?_
    refine o_as (.slice _ _ _) rfl rfl rfl rfl ?_
    refine o_as (.int _ _) rfl rfl rfl rfl ?_
    refine XO_end rfl ?_
    refine thenX_normal ?_
    refine XC_seq rfl ?_
    refine XC_seq rfl ?_
    refine XC_region rfl ?_
    refine o_mv (.int _ _) rfl rfl rfl rfl ?_
    refine o_neq rfl rfl rfl rfl rfl ?_
    refine XO_end rfl ?_
    refine thenX_normal ?_
    refine XC_cond_false rfl rfl ?_
    refine XC_skip rfl ?_
    refine thenX_normal ?_
    refine XC_seq rfl ?_
    refine XC_seq rfl ?_
    refine XC_region rfl ?_
    refine o_mv (.slice _ _ _) rfl rfl rfl rfl ?_
    refine o_eqsl rfl rfl rfl Try.underlying28 rfl rfl ?_
    refine XO_end rfl ?_
    refine thenX_normal ?_
    refine XC_cond rfl rfl (fun h126 => ?_) (fun h126 => ?_)
    · try simp only [decide_eq_true_eq, decide_eq_false_iff_not, Int.not_lt, Int.not_le, ne_eq, Decidable.not_not, gt_iff_lt, ge_iff_le] at h126
      have hnone : recFrom (fun i => S.get (secN T0 i)) (T0.first + rs.length) (needs rs) (T0.size - needs rs) (needs rs) [] = none := by
        rcases hcase' with ⟨_, h⟩ | ⟨r, _, _, ⟨a, k, he, _⟩, _⟩
        · exact h
        · injection he with e1; rw [e1] at h126; cases h126
      have hfull : rs = rs0 := by rw [← hsc]; unfold scan; rw [hnone]; simp
      subst hfull
      have hlog3 := hlog.no hc3
      refine XC_exit rfl ?_
      refine thenX_exit ?_
      refine inBlockX_past rfl ?_
      refine thenX_exit ?_
      refine inBlockX_here ?_
      refine thenX_normal ?_
      refine XC_seq rfl ?_
      refine XC_seq rfl ?_
      refine XC_region rfl ?_
      refine o_mv (.pointer _) rfl rfl rfl rfl ?_
      refine XO_stepd rfl rfl rfl rfl (m_call Try.call70 (clean_wal_ok hlog3) rfl ?_)
      rintro _ w4 ⟨rfl, γ4, he4, hlog4⟩
      have hlog4' : Log γ4 c d w4 w.heap.size p (readW T0 rs) (cleaned S T0 rs) := hlog4
      have hq4 := hlog4'.wa
      refine o_as (.int _ _) rfl rfl rfl rfl ?_
      refine XO_end rfl ?_
      refine thenX_normal ?_
      refine XC_seq rfl ?_
      refine XC_region rfl ?_
      refine o_mv (.int _ _) rfl rfl rfl rfl ?_
      refine o_neq rfl rfl rfl rfl rfl ?_
      refine XO_end rfl ?_
      refine thenX_normal ?_
      refine XC_cond_false rfl rfl ?_
      refine XC_skip rfl ?_
      refine thenX_normal ?_
      refine XC_seq rfl ?_
      refine XC_draw (fun w' => w'.cell? ⟨w.heap.size, 4, none⟩ = some (.int .i64 (T0.place : Int)) ∧ w'.cell? ⟨w.heap.size, 5, none⟩ = some (.int .i64 (T0.first : Int))) Trymixed rfl 30 rfl ?_
      intro w5 hN5 hh5
      have hS := And.intro (show w5.cell? ⟨w.heap.size, 4, none⟩ = some (.int .i64 (T0.place : Int)) by rw [(hq4.keep hN5 (fun x => x)).cell]; rfl) (show w5.cell? ⟨w.heap.size, 5, none⟩ = some (.int .i64 (T0.first : Int)) by rw [(hq4.keep hN5 (fun x => x)).cell]; rfl)
      have hlog5 := hlog4'.no hN5
      have hq5 : At w5 w.heap.size (.cells (walC p (readW T0 rs)) 104 (0, 0)) := hlog5.wa
      refine q_mv (i := 0) (.pointer _) rfl rfl rfl (by kernel_rfl) rfl (fun _ => ?_) hS
      refine q_mv (i := 1) (.slice _ _ _) rfl rfl rfl (by kernel_rfl) rfl (fun _ => ?_) hS
      refine q_mv (i := 2) (.pointer _) rfl rfl rfl (by kernel_rfl) rfl (fun _ => ?_) hS
      refine q_mv (i := 3) (.pointer _) rfl rfl rfl (by kernel_rfl) rfl (fun _ => ?_) hS
      refine q_nilc (i := 4) rfl rfl rfl (by kernel_rfl) rfl (fun _ => ?_) hS
      refine q_fa0 (i := 5) 2 rfl rfl rfl (by kernel_rfl) Try.underlying104 rfl Try.sizeOf102 rfl rfl rfl (fun _ => ?_) hS
      refine q_fa (i := 6) 0 rfl rfl rfl (by kernel_rfl) Try.underlying102 rfl Try.sizeOf3 rfl rfl rfl (fun _ => ?_) hS
      refine q_mv (i := 9) (.pointer _) rfl rfl rfl (by kernel_rfl) rfl (fun _ => ?_) hS
      refine q_nilc (i := 10) rfl rfl rfl (by kernel_rfl) rfl (fun _ => ?_) hS
      refine q_fa0 (i := 11) 2 rfl rfl rfl (by kernel_rfl) Try.underlying104 rfl Try.sizeOf102 rfl rfl rfl (fun _ => ?_) hS
      refine q_fa (i := 12) 1 rfl rfl rfl (by kernel_rfl) Try.underlying102 rfl Try.sizeOf3 rfl rfl rfl (fun _ => ?_) hS
      refine q_mv (i := 15) (.pointer _) rfl rfl rfl (by kernel_rfl) rfl (fun _ => ?_) hS
      refine q_nilc (i := 16) rfl rfl rfl (by kernel_rfl) rfl (fun _ => ?_) hS
      refine q_fa0 (i := 17) 2 rfl rfl rfl (by kernel_rfl) Try.underlying104 rfl Try.sizeOf102 rfl rfl rfl (fun _ => ?_) hS
      refine q_fa (i := 18) 2 rfl rfl rfl (by kernel_rfl) Try.underlying102 rfl Try.sizeOf3 rfl rfl rfl (fun _ => ?_) hS
      refine q_ld (i := 19) (.int _ _) rfl rfl rfl (by kernel_rfl) Try.isAgg3 rfl (fun _ h => h.1) (fun _ => ?_) hS
      refine q_mv (i := 20) (.pointer _) rfl rfl rfl (by kernel_rfl) rfl (fun _ => ?_) hS
      refine q_nilc (i := 21) rfl rfl rfl (by kernel_rfl) rfl (fun _ => ?_) hS
      refine q_fa0 (i := 22) 2 rfl rfl rfl (by kernel_rfl) Try.underlying104 rfl Try.sizeOf102 rfl rfl rfl (fun _ => ?_) hS
      refine q_fa (i := 23) 3 rfl rfl rfl (by kernel_rfl) Try.underlying102 rfl Try.sizeOf3 rfl rfl rfl (fun _ => ?_) hS
      refine q_ld (i := 24) (.int _ _) rfl rfl rfl (by kernel_rfl) Try.isAgg3 rfl (fun _ h => h.2) (fun _ => ?_) hS
      refine XH_some [7, 13] (by kernel_rfl) rfl hS ?_
      intro i hi; simp only [List.mem_cons, List.not_mem_nil, or_false] at hi; rcases hi with rfl | rfl
      · refine XHop_stepd rfl rfl rfl rfl (m_ld (.int _ _) Try.isAgg3 rfl (by rw [hq5.cell]; rfl) ?_)
        refine q_add (i := 8) (((T0.number + 1 : Nat) : Int)) rfl rfl rfl (by kernel_rfl) rfl rfl (by rw [show ((readW T0 rs).number : Int) = (T0.number : Int) from rfl, in64 (by omega) (by omega)]; omega) (fun _ => ?_) hS
        refine XH_stepd (i := 13) rfl rfl rfl rfl (by kernel_rfl) hS (m_ld (.int _ _) Try.isAgg3 rfl (by rw [hq5.cell]; rfl) ?_)
        refine q_add (i := 14) (((T0.life + 1 : Nat) : Int)) rfl rfl rfl (by kernel_rfl) rfl rfl (by rw [show ((readW T0 rs).life : Int) = (T0.life : Int) from rfl, in64 (by omega) (by omega)]; omega) (fun _ => ?_) hS
        refine q_build (i := 25) (pl := [(0, 1), (1, 1), (2, 1), (3, 1)]) [.int _ _, .int _ _, .int _ _, .int _ _] rfl rfl rfl (by kernel_rfl) (by kernel_rfl) Try.zeroValue102 rfl rfl (fun _ => ?_) hS
        refine XH_stepd (i := 26) rfl rfl rfl rfl (by kernel_rfl) hS (m_call Try.call71 (begin_ok (n := T0.number + 1) (l := T0.life + 1) (pl := T0.place) (f := T0.first) hlog5 (by omega) hlog5.place) rfl ?_)
        rintro _ w6 ⟨rfl, γ6, he6, hlog6⟩
        replace hS := And.intro (show w6.cell? ⟨w.heap.size, 4, none⟩ = some (.int .i64 (T0.place : Int)) by rw [hlog6.wa.cell]; rfl) (show w6.cell? ⟨w.heap.size, 5, none⟩ = some (.int .i64 (T0.first : Int)) by rw [hlog6.wa.cell]; rfl)
        refine q_as (i := 27) (.pointer _) rfl rfl rfl (by kernel_rfl) rfl (fun _ => ?_) hS
        refine q_as (i := 28) (.slice _ _ _) rfl rfl rfl (by kernel_rfl) rfl (fun _ => ?_) hS
        refine q_as (i := 29) (.int _ _) rfl rfl rfl (by kernel_rfl) rfl (fun _ => ?_) hS
        refine XH_done (by kernel_rfl) hS ?_
        refine thenX_normal ?_
        have hE6 : Ext γ2 γ6 (fun k => k = c ∨ k = d) wr w6 := (((Ext.ofNo hc3).trans (he4.mono (fun _ x => .inl x))).trans (Ext.ofNo hN5)).trans he6
        have hE0 : Ext γ γ2 (fun k => k = c ∨ k = d) w w2 := e2.mono (fun _ x => False.elim x)
        have hE1 : Ext γ2 γ2 (fun k => k = c ∨ k = d) w2 w8 := he8'.mono (fun _ x => .inr x)
        have hE2 : Ext γ2 γ2 (fun k => k = c ∨ k = d) w8 wr := ⟨hE.mono (fun _ _ x => by subst x; exact .inr hgq), fun _ _ => rfl⟩
        have hg8 : ∀ k, w8.heap.size ≤ k → γ2 k = 0 := fun k hk => hg0 k (by have := he8'.chg.size; omega)
        refine XC_ret rfl ?_
        refine topX_ret ?_
        refine RetV_of (.tuple #[.pointer _, .slice _ _ _, .int _ _]) rfl ?_
        exact ⟨w.heap.size, γ6, _, rfl, Nat.le_refl _, ((hE0.trans hE1).trans hE2).trans hE6, hlog6, TextsZ.ext ⟨a11, c11, vs, rfl, ⟨Row.of_own hown, fun k _ hb => hg8 k (own_blk hown k hb).1⟩, hown.1.trans (Nat.mul_one _), fun j u b hu hb => (hgot j u b hu hb).text hg8⟩ hE6 (fun x => x.elim (fun x => c0 x.symm) (fun x => d0 x.symm))⟩
      · refine XHop_stepd rfl rfl rfl rfl (m_ld (.int _ _) Try.isAgg3 rfl (by rw [hq5.cell]; rfl) ?_)
        refine q_add (i := 14) (((T0.life + 1 : Nat) : Int)) rfl rfl rfl (by kernel_rfl) rfl rfl (by rw [show ((readW T0 rs).life : Int) = (T0.life : Int) from rfl, in64 (by omega) (by omega)]; omega) (fun _ => ?_) hS
        refine XH_stepd (i := 7) rfl rfl rfl rfl (by kernel_rfl) hS (m_ld (.int _ _) Try.isAgg3 rfl (by rw [hq5.cell]; rfl) ?_)
        refine q_add (i := 8) (((T0.number + 1 : Nat) : Int)) rfl rfl rfl (by kernel_rfl) rfl rfl (by rw [show ((readW T0 rs).number : Int) = (T0.number : Int) from rfl, in64 (by omega) (by omega)]; omega) (fun _ => ?_) hS
        refine q_build (i := 25) (pl := [(0, 1), (1, 1), (2, 1), (3, 1)]) [.int _ _, .int _ _, .int _ _, .int _ _] rfl rfl rfl (by kernel_rfl) (by kernel_rfl) Try.zeroValue102 rfl rfl (fun _ => ?_) hS
        refine XH_stepd (i := 26) rfl rfl rfl rfl (by kernel_rfl) hS (m_call Try.call71 (begin_ok (n := T0.number + 1) (l := T0.life + 1) (pl := T0.place) (f := T0.first) hlog5 (by omega) hlog5.place) rfl ?_)
        rintro _ w6 ⟨rfl, γ6, he6, hlog6⟩
        replace hS := And.intro (show w6.cell? ⟨w.heap.size, 4, none⟩ = some (.int .i64 (T0.place : Int)) by rw [hlog6.wa.cell]; rfl) (show w6.cell? ⟨w.heap.size, 5, none⟩ = some (.int .i64 (T0.first : Int)) by rw [hlog6.wa.cell]; rfl)
        refine q_as (i := 27) (.pointer _) rfl rfl rfl (by kernel_rfl) rfl (fun _ => ?_) hS
        refine q_as (i := 28) (.slice _ _ _) rfl rfl rfl (by kernel_rfl) rfl (fun _ => ?_) hS
        refine q_as (i := 29) (.int _ _) rfl rfl rfl (by kernel_rfl) rfl (fun _ => ?_) hS
        refine XH_done (by kernel_rfl) hS ?_
        refine thenX_normal ?_
        have hE6 : Ext γ2 γ6 (fun k => k = c ∨ k = d) wr w6 := (((Ext.ofNo hc3).trans (he4.mono (fun _ x => .inl x))).trans (Ext.ofNo hN5)).trans he6
        have hE0 : Ext γ γ2 (fun k => k = c ∨ k = d) w w2 := e2.mono (fun _ x => False.elim x)
        have hE1 : Ext γ2 γ2 (fun k => k = c ∨ k = d) w2 w8 := he8'.mono (fun _ x => .inr x)
        have hE2 : Ext γ2 γ2 (fun k => k = c ∨ k = d) w8 wr := ⟨hE.mono (fun _ _ x => by subst x; exact .inr hgq), fun _ _ => rfl⟩
        have hg8 : ∀ k, w8.heap.size ≤ k → γ2 k = 0 := fun k hk => hg0 k (by have := he8'.chg.size; omega)
        refine XC_ret rfl ?_
        refine topX_ret ?_
        refine RetV_of (.tuple #[.pointer _, .slice _ _ _, .int _ _]) rfl ?_
        exact ⟨w.heap.size, γ6, _, rfl, Nat.le_refl _, ((hE0.trans hE1).trans hE2).trans hE6, hlog6, TextsZ.ext ⟨a11, c11, vs, rfl, ⟨Row.of_own hown, fun k _ hb => hg8 k (own_blk hown k hb).1⟩, hown.1.trans (Nat.mul_one _), fun j u b hu hb => (hgot j u b hu hb).text hg8⟩ hE6 (fun x => x.elim (fun x => c0 x.symm) (fun x => d0 x.symm))⟩
    · try simp only [decide_eq_true_eq, decide_eq_false_iff_not, Int.not_lt, Int.not_le, ne_eq, Decidable.not_not, gt_iff_lt, ge_iff_le] at h126
      have hsome : ∃ r, recFrom (fun i => S.get (secN T0 i)) (T0.first + rs.length) (needs rs) (T0.size - needs rs) (needs rs) [] = some r ∧ L12 = r.length ∧ Got wr.heap.size w3 (.slice a12 L12 k12) r ∧ 0 < r.length ∧ r.length ≤ 2000 := by
        rcases hcase' with ⟨h, _⟩ | h
        · rw [h] at h126; cases h126
        · exact h
      obtain ⟨r, hr, rfl, hgr, hr0, hr1⟩ := hsome
      have hneed := recFrom_need hg64 _ _ _ _ (by omega) (Nat.le_refl _) (by simp) hr
      have hsw := hE.size
      have hs3 := hc3.size
      refine XC_skip rfl ?_
      refine thenX_normal ?_
      refine XC_seq rfl ?_
      refine XC_region rfl ?_
      refine o_mv (.slice _ _ _) rfl rfl rfl rfl ?_
      refine o_mv (.slice _ _ _) rfl rfl rfl rfl ?_
      refine XO_stepd rfl rfl rfl rfl (m_bsl [.slice _ _ _] Try.underlying22 Try.sizeOf28 Try.zeroValue28 rfl rfl rfl rfl (by simp [Value.oneCell']) ?_)
      intro w4 hc4 hs4 hB4
      have hrow4 := Row.of_cells (l := 1) hB4 rfl
      have hown4 := own_keep (own_keep hown hc3 (fun _ _ x => x)) hc4 (fun _ _ x => x)
      refine XO_stepd rfl rfl rfl rfl (m_app (bytes := 24) Try.underlying22 Try.typeInfo28 rfl rfl rfl rfl rfl rfl (hown4) (hrow4) ((by intro u hu; simp at hu; subst hu; rfl)) (by omega) (by omega) (by omega) ?_)
      intro a13 c13 w5 ho5 hc5 hb5 hn5
      have hs5 := hc5.size
      have hE5 : Chg (fun k => k = w.heap.size) w8 w5 := ((hE.then hc3 (fun _ _ h => h) (fun _ _ h => h.elim)).then hc4 (fun _ _ h => h) (fun _ _ h => h.elim)).then hc5 (fun _ _ h => h) (fun i hi hm => by have := own_blk hown i hm; omega)
      have hq4 := (hq.keep hc3 (fun x => x)).keep hc4 (fun x => x)
      have hw8 := he8'.chg.size
      have hq5 : At w5 w.heap.size (.cells (walC p (readW T0 rs)) 104 (0, 0)) := hq4.keep hc5 (fun hm => by have := own_blk hown _ hm; omega)
      have hvl : vs.length = rs.length := hown.1.trans (Nat.mul_one _)
      have hgot5 : ∀ (j : Nat) (u : Value) (b : Byt), (vs ++ [.slice a12 r.length k12])[j]? = some u → (rs ++ [r])[j]? = some b → Got w8.heap.size w5 u b := by
        intro j u b hu hb
        rcases Nat.lt_or_ge j rs.length with hj | hj
        · rw [List.getElem?_append_left (by omega)] at hu hb
          exact (((hgot j u b hu hb).no hc3).no hc4).app hown4 hc5
        · rw [List.getElem?_append_right (by omega)] at hu hb
          have hj0 : j = rs.length := by have := (List.getElem?_eq_some_iff.1 hb).1; simp at this; omega
          subst hj0
          rw [hvl, Nat.sub_self] at hu
          rw [Nat.sub_self] at hb
          simp at hu hb; subst hu; subst hb
          exact ((hgr.lower hsw).no hc4).app hown4 hc5
      have hscan : scan (fun i => S.get (secN T0 i)) T0.size (f + 1) (needs rs) (T0.first + rs.length) = r :: scan (fun i => S.get (secN T0 i)) T0.size f (needs rs + needN r.length) (T0.first + rs.length + 1) := by rw [scan, hr]
      have hst1 : needs (rs ++ [r]) = needs rs + needN r.length := needs_snoc _ _
      refine o_as (.slice _ _ _) rfl rfl rfl rfl ?_
      refine XO_end rfl ?_
      refine thenX_normal ?_
      refine XC_seq rfl ?_
      refine XC_draw (fun _ => True) Trymixed rfl 10 rfl ?_
      intro w6 hN6 hh6
      have hS := trivial
      have hq6 : At w6 w.heap.size (.cells (walK p T0.size T0.number T0.life T0.place T0.first (T0.first + rs.length) (needs rs)) 104 (0, 0)) := hq5.keep hN6 (fun x => x)
      refine q_mv (i := 0) (.pointer _) rfl rfl rfl (by kernel_rfl) rfl (fun _ => ?_) hS
      refine q_nilc (i := 1) rfl rfl rfl (by kernel_rfl) rfl (fun _ => ?_) hS
      refine q_fa0 (i := 2) 7 rfl rfl rfl (by kernel_rfl) Try.underlying104 rfl Try.sizeOf3 rfl rfl rfl (fun _ => ?_) hS
      refine q_mv (i := 4) (.slice _ _ _) rfl rfl rfl (by kernel_rfl) rfl (fun _ => ?_) hS
      refine XH_some [3, 5] (by kernel_rfl) rfl hS ?_
      intro i hi; simp only [List.mem_cons, List.not_mem_nil, or_false] at hi; rcases hi with rfl | rfl
      · refine XHop_stepd rfl rfl rfl rfl (m_ld (.int _ _) Try.isAgg3 rfl (by rw [hq6.cell]; rfl) ?_)
        refine XH_stepd (i := 5) rfl rfl rfl rfl (by kernel_rfl) hS (m_call Try.call58 (need_ok (by omega)) rfl ?_)
        rintro _ _ ⟨rfl, rfl⟩
        refine q_add (i := 6) _ rfl rfl rfl (by kernel_rfl) rfl rfl (in64 (by omega) (by omega)) (fun _ => ?_) hS
        refine q_nilc (i := 7) rfl rfl rfl (by kernel_rfl) rfl (fun _ => ?_) hS
        refine q_fa0 (i := 8) 7 rfl rfl rfl (by kernel_rfl) Try.underlying104 rfl Try.sizeOf3 rfl rfl rfl (fun _ => ?_) hS
        refine XH_stepn (i := 9) rfl rfl rfl (by kernel_rfl) hS (m_st (.int _ _) Try.sizeOf3 rfl rfl rfl hq6 (by first | decide | (simp; done) | omega | (simp; omega)) ?_)
        intro w7' hc7 hs7 hB7
        have hB7' : At w7' w.heap.size (.cells (walK p T0.size T0.number T0.life T0.place T0.first (T0.first + rs.length) (needs rs + needN r.length)) 104 (0, 0)) := by simpa [walK] using hB7
        refine XH_done (by kernel_rfl) hS ?_
        refine thenX_normal ?_
        refine XC_region rfl ?_
        refine o_mv (.pointer _) rfl rfl rfl rfl ?_
        refine o_nilc rfl rfl rfl rfl ?_
        refine o_fa0 6 rfl rfl rfl Try.underlying104 rfl Try.sizeOf3 rfl rfl rfl ?_
        refine o_ldB (.int _ _) rfl rfl rfl Try.isAgg3 rfl (by assumption) rfl ?_
        refine o_add _ rfl rfl rfl rfl rfl (in64 (by omega) (by omega)) ?_
        refine o_nilc rfl rfl rfl rfl ?_
        refine o_fa0 6 rfl rfl rfl Try.underlying104 rfl Try.sizeOf3 rfl rfl rfl ?_
        refine XO_stepn rfl rfl rfl (m_st (.int _ _) Try.sizeOf3 rfl rfl rfl (by assumption) (by first | decide | (simp; done) | omega | (simp; omega)) ?_)
        intro w9 hc9 hs9 hB9
        refine XO_end rfl ?_
        refine inBlockX_normal ?_
        refine thenX_normal ?_
        have hE9 : Chg (fun k => k = w.heap.size) w8 w9 := ((hE5.then hN6 (fun _ _ h => h) (fun _ _ h => h.elim)).trans hc7).trans hc9
        have hB9' : At w9 w.heap.size (.cells (walC p (readW T0 (rs ++ [r]))) 104 (0, 0)) := by simp only [walC, readW, hst1, List.length_append, List.length_cons, List.length_nil]; simpa [walK, Int.add_assoc] using hB9
        have hkq : ∀ k, w8.heap.size ≤ k → ¬ k = w.heap.size := fun k hk => by omega
        have hgot9 : ∀ (j : Nat) (u : Value) (b : Byt), (vs ++ [.slice a12 r.length k12])[j]? = some u → (rs ++ [r])[j]? = some b → Got w8.heap.size w9 u b := fun j u b hu hb => (((hgot5 j u b hu hb).no hN6).keep hc7 hkq).keep hc9 hkq
        have ho9 := own_keep (own_keep (own_keep ho5 hN6 (fun _ _ x => x)) hc7 (fun k hk => hkq k (own_blk ho5 k (by cases a13 with | none => simp [Value.ownBlock] at hk | some ad => simp [Value.ownBlock] at hk; exact ⟨ad, rfl, hk⟩)).1)) hc9 (fun k hk => hkq k (own_blk ho5 k (by cases a13 with | none => simp [Value.ownBlock] at hk | some ad => simp [Value.ownBlock] at hk; exact ⟨ad, rfl, hk⟩)).1)
        exact ⟨T0.size - (needs rs + needN r.length), [(5, .pointer (some ⟨w.heap.size, 0, none⟩)), (11, .slice a13 (rs.length + 1) c13)], by omega, Agrees.cons rfl (Agrees.cons rfl (Agrees.nil _)), ⟨rs ++ [r], f, a13, c13, vs ++ [.slice a12 r.length k12], by rw [List.length_append]; rfl, by omega, by rw [List.length_append, hst1]; simp; omega, by rw [hst1], hE9, hB9', by rw [List.length_append]; exact ho9, hgot9, by rw [← hsc, hscan, hst1, List.append_assoc, List.length_append]; rfl, by omega⟩⟩
      · refine XHop_stepd rfl rfl rfl rfl (m_call Try.call58 (need_ok (by omega)) rfl ?_)
        rintro _ _ ⟨rfl, rfl⟩
        refine XH_stepd (i := 3) rfl rfl rfl rfl (by kernel_rfl) hS (m_ld (.int _ _) Try.isAgg3 rfl (by rw [hq6.cell]; rfl) ?_)
        refine q_add (i := 6) _ rfl rfl rfl (by kernel_rfl) rfl rfl (in64 (by omega) (by omega)) (fun _ => ?_) hS
        refine q_nilc (i := 7) rfl rfl rfl (by kernel_rfl) rfl (fun _ => ?_) hS
        refine q_fa0 (i := 8) 7 rfl rfl rfl (by kernel_rfl) Try.underlying104 rfl Try.sizeOf3 rfl rfl rfl (fun _ => ?_) hS
        refine XH_stepn (i := 9) rfl rfl rfl (by kernel_rfl) hS (m_st (.int _ _) Try.sizeOf3 rfl rfl rfl hq6 (by first | decide | (simp; done) | omega | (simp; omega)) ?_)
        intro w7' hc7 hs7 hB7
        have hB7' : At w7' w.heap.size (.cells (walK p T0.size T0.number T0.life T0.place T0.first (T0.first + rs.length) (needs rs + needN r.length)) 104 (0, 0)) := by simpa [walK] using hB7
        refine XH_done (by kernel_rfl) hS ?_
        refine thenX_normal ?_
        refine XC_region rfl ?_
        refine o_mv (.pointer _) rfl rfl rfl rfl ?_
        refine o_nilc rfl rfl rfl rfl ?_
        refine o_fa0 6 rfl rfl rfl Try.underlying104 rfl Try.sizeOf3 rfl rfl rfl ?_
        refine o_ldB (.int _ _) rfl rfl rfl Try.isAgg3 rfl (by assumption) rfl ?_
        refine o_add _ rfl rfl rfl rfl rfl (in64 (by omega) (by omega)) ?_
        refine o_nilc rfl rfl rfl rfl ?_
        refine o_fa0 6 rfl rfl rfl Try.underlying104 rfl Try.sizeOf3 rfl rfl rfl ?_
        refine XO_stepn rfl rfl rfl (m_st (.int _ _) Try.sizeOf3 rfl rfl rfl (by assumption) (by first | decide | (simp; done) | omega | (simp; omega)) ?_)
        intro w9 hc9 hs9 hB9
        refine XO_end rfl ?_
        refine inBlockX_normal ?_
        refine thenX_normal ?_
        have hE9 : Chg (fun k => k = w.heap.size) w8 w9 := ((hE5.then hN6 (fun _ _ h => h) (fun _ _ h => h.elim)).trans hc7).trans hc9
        have hB9' : At w9 w.heap.size (.cells (walC p (readW T0 (rs ++ [r]))) 104 (0, 0)) := by simp only [walC, readW, hst1, List.length_append, List.length_cons, List.length_nil]; simpa [walK, Int.add_assoc] using hB9
        have hkq : ∀ k, w8.heap.size ≤ k → ¬ k = w.heap.size := fun k hk => by omega
        have hgot9 : ∀ (j : Nat) (u : Value) (b : Byt), (vs ++ [.slice a12 r.length k12])[j]? = some u → (rs ++ [r])[j]? = some b → Got w8.heap.size w9 u b := fun j u b hu hb => (((hgot5 j u b hu hb).no hN6).keep hc7 hkq).keep hc9 hkq
        have ho9 := own_keep (own_keep (own_keep ho5 hN6 (fun _ _ x => x)) hc7 (fun k hk => hkq k (own_blk ho5 k (by cases a13 with | none => simp [Value.ownBlock] at hk | some ad => simp [Value.ownBlock] at hk; exact ⟨ad, rfl, hk⟩)).1)) hc9 (fun k hk => hkq k (own_blk ho5 k (by cases a13 with | none => simp [Value.ownBlock] at hk | some ad => simp [Value.ownBlock] at hk; exact ⟨ad, rfl, hk⟩)).1)
        exact ⟨T0.size - (needs rs + needN r.length), [(5, .pointer (some ⟨w.heap.size, 0, none⟩)), (11, .slice a13 (rs.length + 1) c13)], by omega, Agrees.cons rfl (Agrees.cons rfl (Agrees.nil _)), ⟨rs ++ [r], f, a13, c13, vs ++ [.slice a12 r.length k12], by rw [List.length_append]; rfl, by omega, by rw [List.length_append, hst1]; simp; omega, by rw [hst1], hE9, hB9', by rw [List.length_append]; exact ho9, hgot9, by rw [← hsc, hscan, hst1, List.append_assoc, List.length_append]; rfl, by omega⟩⟩
end
end Go.Proofs.Ytijjnlfmlcbfpaa

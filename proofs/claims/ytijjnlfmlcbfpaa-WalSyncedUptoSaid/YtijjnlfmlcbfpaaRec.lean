/- Reading a record of the log. -/
import Derived.Test.YtijjnlfmlcbfpaaOpenN
set_option linter.unusedVariables false
set_option maxRecDepth 4000
namespace Go.Proofs.Ytijjnlfmlcbfpaa
open Go

def isLast (b : Byt) : Bool := decide (b.getD 11 0 = 1)
def cntB (b : Byt) : Nat := (b.getD 9 0).toNat
def partB (b : Byt) : Byt := (b.take (12 + cntB b)).drop 12
def badCnt (b : Byt) : Prop := cntB b < 1 ∨ 40 < cntB b ∨ (cntB b < 40 ∧ isLast b = false)
instance (b : Byt) : Decidable (badCnt b) := by unfold badCnt; infer_instance
def recFrom (g : Nat → Byt) (n st : Nat) : Nat → Nat → Byt → Option Byt
  | 0, _, _ => none
  | f + 1, i, acc =>
    if badCnt (g i) then none
    else if 2000 < (acc ++ partB (g i)).length ∨ g i ≠ pieceB (n : Int) (partB (g i)) (decide (i = st)) (isLast (g i)) then none
    else if isLast (g i) = true then some (acc ++ partB (g i))
    else recFrom g n st f (i + 1) (acc ++ partB (g i))
theorem recFrom_step {g : Nat → Byt} {n st size i : Nat} {acc : Byt} (h : i < size) : recFrom g n st (size - i) i acc =
    if badCnt (g i) then none
    else if 2000 < (acc ++ partB (g i)).length ∨ g i ≠ pieceB (n : Int) (partB (g i)) (decide (i = st)) (isLast (g i)) then none
    else if isLast (g i) = true then some (acc ++ partB (g i))
    else recFrom g n st (size - (i + 1)) (i + 1) (acc ++ partB (g i)) := by
  rw [show size - i = (size - (i + 1)) + 1 by omega]; rfl
theorem partB_len {b : Byt} (h : b.length = 64) (hc : cntB b ≤ 40) : (partB b).length = cntB b := by simp [partB]; omega

theorem u8s_get {bs : Byt} {k : Nat} {v : Value} (h : (u8s bs)[k]? = some v) : v = .int .u8 (bs.getD k 0) := by
  simp only [u8s, List.getElem?_map] at h
  rw [List.getD_eq_getElem?_getD]
  cases hb : bs[k]? with
  | none => rw [hb] at h; cases h
  | some x => rw [hb] at h; injection h with h; exact h.symm
theorem u8s_at {bs : Byt} {k : Nat} (h : k < bs.length) : (u8s bs)[k]? = some (.int .u8 (bs.getD k 0)) := by
  simp [u8s, List.getElem?_eq_getElem h, List.getD_eq_getElem?_getD]
theorem cntB_ok {bs : Byt} (h : Okb bs) : bs.getD 9 0 = ((cntB bs : Nat) : Int) ∧ cntB bs ≤ 255 := by
  have : 0 ≤ bs.getD 9 0 ∧ bs.getD 9 0 ≤ 255 := by
    rw [List.getD_eq_getElem?_getD]
    cases hb : bs[9]? with
    | none => simp
    | some x => exact h x (List.mem_of_getElem? hb)
  unfold cntB; omega
theorem partB_ok {bs : Byt} (h : Okb bs) : Okb (partB bs) := fun x hx => h x (List.mem_of_mem_take (List.mem_of_mem_drop hx))

section
variable {γ : Nat → Nat} {c d : Nat} {w : World} {q p : Nat} {T : WSt} {S : PSt}

/-- What a reading of a record gives: a nil slice, or bytes of its own. -/
def RecV (n : Nat) (w : World) (v : Value) : Option Byt → Prop
  | none => v = .tuple #[.slice none 0 0, .int .i64 0]
  | some r => ∃ a k, v = .tuple #[.slice (some a) r.length k, .int .i64 0] ∧ w.ownsRow n 5 1 (.slice (some a) r.length k) r.length (u8s r) ∧ Okb r ∧ 0 < r.length ∧ r.length ≤ 2000

theorem record_ok {st : Nat} (h : Log γ c d w q p T S) (hst : st ≤ T.size) :
    Ret Try.prog 69 #[.pointer (some ⟨q, 0, none⟩), .int .i64 (st : Int)] w fun v w' => RecV w.heap.size w' v (recFrom (fun i => S.get (secN T i)) T.next st (T.size - st) st []) ∧ Chg No w w' := by
  have hsz := h.sz
  have hln := h.pl.len
  refine Ret_of_X 86 Try.func69 rfl Try.ntmps69 rfl rfl ?_
  refine XC_seq rfl ?_
  refine XC_region rfl ?_
  refine o_as (.slice _ _ _) rfl rfl rfl rfl ?_
  refine o_as (.int _ _) rfl rfl rfl rfl ?_
  refine XO_end rfl ?_
  refine thenX_normal ?_
  refine XC_seq rfl ?_
  refine XC_region rfl ?_
  refine o_as (.slice _ _ _) rfl rfl rfl rfl ?_
  refine XO_end rfl ?_
  refine thenX_normal ?_
  refine XC_seq rfl ?_
  refine XC_seq rfl ?_
  refine XC_region rfl ?_
  refine o_mv (.int _ _) rfl rfl rfl rfl ?_
  refine o_as (.int _ _) rfl rfl rfl rfl ?_
  refine XO_end rfl ?_
  refine thenX_normal ?_
  refine XC_block (id := 0) rfl ?_
  refine XC_loop (fun m l w' => ∃ (i : Nat) (a : Option Addr) (k : Nat) (acc : Byt), l = [(0, .pointer (some ⟨q, 0, none⟩)), (1, .int .i64 (st : Int)), (6, .slice a acc.length k), (7, .int .i64 (i : Int))] ∧ st ≤ i ∧ i ≤ T.size ∧ m = T.size - i ∧ Chg No w w' ∧ w'.ownsRow w.heap.size 5 1 (.slice a acc.length k) acc.length (u8s acc) ∧ Okb acc ∧ acc.length ≤ 2000 ∧ recFrom (fun i => S.get (secN T i)) T.next st (T.size - st) st [] = recFrom (fun i => S.get (secN T i)) T.next st (T.size - i) i acc) rfl (T.size - st) [(0, .pointer (some ⟨q, 0, none⟩)), (1, .int .i64 (st : Int)), (6, .slice none 0 0), (7, .int .i64 (st : Int))] ?_ ?_ ?_
  · exact Agrees.cons rfl (Agrees.cons rfl (Agrees.cons rfl (Agrees.cons rfl (Agrees.nil _))))
  · exact ⟨st, none, 0, [], rfl, by omega, by omega, rfl, Chg.refl _ _, World.ownsRow_nil _ _ _ _, fun x hx => (by cases hx), by simp, rfl⟩
  intro m l wr g ⟨i, a6, k6, acc, hl, hi1, hi2, hm, hcw, hown, hacc, hacl, hrec⟩
  subst hl
  have hlog := h.no hcw
  have hq : At wr q (.cells (walC p T) 104 (0, 0)) := hlog.wa
  refine XC_seq rfl ?_
  refine XC_seq rfl ?_
  refine XC_region rfl ?_
  refine o_mv (.int _ _) rfl rfl rfl rfl ?_
  refine o_mv (.pointer _) rfl rfl rfl rfl ?_
  refine o_nilc rfl rfl rfl rfl ?_
  refine o_fa0 1 rfl rfl rfl Try.underlying104 rfl Try.sizeOf3 rfl rfl rfl ?_
  refine o_ldB (.int _ _) rfl rfl rfl Try.isAgg3 rfl (by assumption) rfl ?_
  refine o_lss rfl rfl rfl rfl rfl ?_
  refine XO_end rfl ?_
  refine thenX_normal ?_
  refine XC_cond rfl rfl (fun hlt => ?_) (fun hlt => ?_)
  · try simp only [decide_eq_true_eq, decide_eq_false_iff_not, Int.not_lt, Int.not_le, ne_eq, Decidable.not_not, gt_iff_lt, ge_iff_le] at hlt
    have hlt' : i < T.size := by omega
    refine XC_skip rfl ?_
    refine thenX_normal ?_
    refine XC_seq rfl ?_
    refine XC_block (id := 1) rfl ?_
    refine XC_seq rfl ?_
    refine XC_draw (fun w' => At w' q (.cells (walC p T) 104 (0, 0))) Trymixed rfl 13 rfl ?_
    intro w2 hN hh2
    have hS := hq.keep hN (fun x => x)
    refine q_mv (i := 0) (.pointer _) rfl rfl rfl (by kernel_rfl) rfl (fun _ => ?_) hS
    refine q_nilc (i := 1) rfl rfl rfl (by kernel_rfl) rfl (fun _ => ?_) hS
    refine q_fa0 (i := 2) 0 rfl rfl rfl (by kernel_rfl) Try.underlying104 rfl Try.sizeOf24 rfl rfl rfl (fun _ => ?_) hS
    refine q_ldB (i := 3) (.pointer _) rfl rfl rfl (by kernel_rfl) Try.isAgg24 rfl (fun _ h => h) rfl (fun _ => ?_) hS
    refine q_mv (i := 4) (.pointer _) rfl rfl rfl (by kernel_rfl) rfl (fun _ => ?_) hS
    refine q_mv (i := 5) (.int _ _) rfl rfl rfl (by kernel_rfl) rfl (fun _ => ?_) hS
    refine XH_stepd (i := 6) rfl rfl rfl rfl (by kernel_rfl) hS (m_call Try.call60 (sector_ok (hlog.no hN) (by omega)) rfl ?_)
    rintro _ w3 ⟨rfl, hc3⟩
    replace hS := At.keep hS hc3 (fun x => x)
    replace hN := Chg.trans hN hc3
    have hge3 := Chg.size hN
    refine XH_stepd (i := 7) rfl rfl rfl rfl (by kernel_rfl) hS (m_call Try.call66 (Read_ok (i := secN T i) (hlog.no hN).pl (by rw [hsz]; exact secN_lt h.pos)) rfl ?_)
    rintro _ w4 ⟨a8, k8, rfl, ho8, hc4, hl8, hok8⟩
    replace hS := At.keep hS hc4 (fun x => x)
    replace hN := Chg.trans hN hc4
    refine q_mv (i := 8) (.tuple _) rfl rfl rfl (by kernel_rfl) rfl (fun _ => ?_) hS
    refine q_ext (i := 9) (.slice _ _ _) rfl rfl rfl (by kernel_rfl) rfl rfl (fun _ => ?_) hS
    refine q_ext (i := 10) (.int _ _) rfl rfl rfl (by kernel_rfl) rfl rfl (fun _ => ?_) hS
    refine q_as (i := 11) (.slice _ _ _) rfl rfl rfl (by kernel_rfl) rfl (fun _ => ?_) hS
    refine q_as (i := 12) (.int _ _) rfl rfl rfl (by kernel_rfl) rfl (fun _ => ?_) hS
    refine XH_done (by kernel_rfl) hS ?_
    refine thenX_normal ?_
    refine XC_seq rfl ?_
    refine XC_seq rfl ?_
    refine XC_region rfl ?_
    refine o_mv (.int _ _) rfl rfl rfl rfl ?_
    refine o_neq rfl rfl rfl rfl rfl ?_
    refine XO_end rfl ?_
    refine thenX_normal ?_
    refine XC_cond_false rfl rfl ?_
    have hk8 : 64 ≤ k8 := own_cap ho8 (by omega)
    have hstep := recFrom_step (g := fun i => S.get (secN T i)) (n := T.next) (st := st) (acc := acc) hlt'
    generalize S.get (secN T i) = bs at ho8 hl8 hok8 hstep
    have hrow8 := Row.of_own ho8
    have hcnt := cntB_ok hok8
    obtain ⟨b8, o8, v9, ha8, hv9, hc9⟩ := hrow8.at_ (k := 9) (by omega)
    subst ha8
    rw [u8s_get hv9, hcnt.1] at hc9
    have hc11 := hrow8.cell (u8s_at (k := 11) (by omega))
    refine XC_skip rfl ?_
    refine thenX_normal ?_
    refine XC_seq rfl ?_
    refine XC_draw (fun w' => w'.cell? ⟨b8, o8 + 9, none⟩ = some (.int .u8 ((cntB bs : Nat) : Int)) ∧ w'.cell? ⟨b8, o8 + 11, none⟩ = some (.int .u8 (bs.getD 11 0))) Trymixed rfl 10 rfl ?_
    intro w5 hN5 hh5
    have hS := And.intro (cell_keep hN5 hc9 (fun x => x)) (cell_keep hN5 hc11 (fun x => x))
    refine q_mv (i := 0) (.slice _ _ _) rfl rfl rfl (by kernel_rfl) rfl (fun _ => ?_) hS
    refine q_ia (i := 1) (9) rfl rfl rfl (by kernel_rfl) Try.underlying28 Try.sizeOf5 rfl rfl (by first | rfl | omega) (by omega) (fun _ => ?_) hS
    refine q_ld (i := 2) (.int _ _) rfl rfl rfl (by kernel_rfl) Try.isAgg5 rfl (fun _ h => h.1) (fun _ => ?_) hS
    refine q_cvi (i := 3) (_) rfl rfl rfl (by kernel_rfl) Try.underlying3 (by rw [Try.underlying5]; rfl) rfl (in64 (by omega) (by omega)) (fun _ => ?_) hS
    refine q_mv (i := 4) (.slice _ _ _) rfl rfl rfl (by kernel_rfl) rfl (fun _ => ?_) hS
    refine q_ia (i := 5) (11) rfl rfl rfl (by kernel_rfl) Try.underlying28 Try.sizeOf5 rfl rfl (by first | rfl | omega) (by omega) (fun _ => ?_) hS
    refine q_ld (i := 6) (.int _ _) rfl rfl rfl (by kernel_rfl) Try.isAgg5 rfl (fun _ h => h.2) (fun _ => ?_) hS
    have hcw5 := (hcw.trans hN).trans hN5
    refine q_eql (i := 7) rfl rfl rfl (by kernel_rfl) rfl rfl (fun _ => ?_) hS
    refine q_as (i := 8) (.int _ _) rfl rfl rfl (by kernel_rfl) rfl (fun _ => ?_) hS
    refine q_as (i := 9) (.bool _) rfl rfl rfl (by kernel_rfl) rfl (fun _ => ?_) hS
    refine XH_done (by kernel_rfl) hS ?_
    refine thenX_normal ?_
    refine XC_cut (fun l w' => l = [(0, .pointer (some ⟨q, 0, none⟩)), (1, .int .i64 (st : Int)), (6, .slice a6 acc.length k6), (7, .int .i64 (i : Int)), (8, .slice (some ⟨b8, o8, none⟩) 64 k8), (10, .int .i64 ((cntB bs : Nat) : Int)), (11, .bool (isLast bs))] ∧ w5 = w' ∧ ¬ badCnt bs) rfl ?_ ?_
    · refine XC_cut (fun l w' => ∃ bad : Bool, l = [(0, .pointer (some ⟨q, 0, none⟩)), (1, .int .i64 (st : Int)), (6, .slice a6 acc.length k6), (7, .int .i64 (i : Int)), (8, .slice (some ⟨b8, o8, none⟩) 64 k8), (10, .int .i64 ((cntB bs : Nat) : Int)), (11, .bool (isLast bs)), (56, .bool bad)] ∧ w5 = w' ∧ (bad = true ↔ badCnt bs)) rfl ?_ ?_
      · refine XC_region rfl ?_
        refine o_mv (.int _ _) rfl rfl rfl rfl ?_
        refine o_lss rfl rfl rfl rfl rfl ?_
        refine o_mv (.bool _) rfl rfl rfl rfl ?_
        refine XO_bool 45 rfl (fun h1 => ?_) (fun h1 => ?_)
        · try simp only [decide_eq_true_eq, decide_eq_false_iff_not, Int.not_lt, Int.not_le, ne_eq, Decidable.not_not, gt_iff_lt, ge_iff_le] at h1
          refine XO_barred rfl rfl rfl rfl ?_
          refine XO_barred rfl rfl rfl rfl ?_
          refine o_pick1 (.bool _) rfl rfl rfl rfl rfl ?_
          refine o_mv (.bool _) rfl rfl rfl rfl ?_
          refine XO_barred rfl rfl rfl rfl ?_
          refine XO_barred rfl rfl rfl rfl ?_
          refine XO_barred rfl rfl rfl rfl ?_
          refine XO_barred rfl rfl rfl rfl ?_
          refine XO_barred rfl rfl rfl rfl ?_
          refine XO_barred rfl rfl rfl rfl ?_
          refine o_pick1 (.bool _) rfl rfl rfl rfl rfl ?_
          refine XO_end rfl ?_
          refine thenX_normal ?_
          exact ⟨[(0, .pointer (some ⟨q, 0, none⟩)), (1, .int .i64 (st : Int)), (6, .slice a6 acc.length k6), (7, .int .i64 (i : Int)), (8, .slice (some ⟨b8, o8, none⟩) 64 k8), (10, .int .i64 ((cntB bs : Nat) : Int)), (11, .bool (isLast bs)), (56, .bool true)], Agrees.cons rfl (Agrees.cons rfl (Agrees.cons rfl (Agrees.cons rfl (Agrees.cons rfl (Agrees.cons rfl (Agrees.cons rfl (Agrees.cons rfl (Agrees.nil _)))))))), ⟨true, rfl, rfl, by unfold badCnt; simp; omega⟩⟩
        · try simp only [decide_eq_true_eq, decide_eq_false_iff_not, Int.not_lt, Int.not_le, ne_eq, Decidable.not_not, gt_iff_lt, ge_iff_le] at h1
          refine o_mv (.int _ _) rfl rfl rfl rfl ?_
          refine o_gtr rfl rfl rfl rfl rfl ?_
          refine o_pick0 (.bool _) rfl rfl rfl rfl rfl ?_
          refine o_mv (.bool _) rfl rfl rfl rfl ?_
          refine XO_bool 49 rfl (fun h2 => ?_) (fun h2 => ?_)
          · try simp only [decide_eq_true_eq, decide_eq_false_iff_not, Int.not_lt, Int.not_le, ne_eq, Decidable.not_not, gt_iff_lt, ge_iff_le] at h2
            refine XO_barred rfl rfl rfl rfl ?_
            refine XO_barred rfl rfl rfl rfl ?_
            refine XO_barred rfl rfl rfl rfl ?_
            refine XO_barred rfl rfl rfl rfl ?_
            refine XO_barred rfl rfl rfl rfl ?_
            refine XO_barred rfl rfl rfl rfl ?_
            refine o_pick1 (.bool _) rfl rfl rfl rfl rfl ?_
            refine XO_end rfl ?_
            refine thenX_normal ?_
            exact ⟨[(0, .pointer (some ⟨q, 0, none⟩)), (1, .int .i64 (st : Int)), (6, .slice a6 acc.length k6), (7, .int .i64 (i : Int)), (8, .slice (some ⟨b8, o8, none⟩) 64 k8), (10, .int .i64 ((cntB bs : Nat) : Int)), (11, .bool (isLast bs)), (56, .bool true)], Agrees.cons rfl (Agrees.cons rfl (Agrees.cons rfl (Agrees.cons rfl (Agrees.cons rfl (Agrees.cons rfl (Agrees.cons rfl (Agrees.cons rfl (Agrees.nil _)))))))), ⟨true, rfl, rfl, by unfold badCnt; simp; omega⟩⟩
          · try simp only [decide_eq_true_eq, decide_eq_false_iff_not, Int.not_lt, Int.not_le, ne_eq, Decidable.not_not, gt_iff_lt, ge_iff_le] at h2
            refine o_mv (.int _ _) rfl rfl rfl rfl ?_
            refine o_lss rfl rfl rfl rfl rfl ?_
            refine o_mv (.bool _) rfl rfl rfl rfl ?_
            refine XO_bool 52 rfl (fun h3 => ?_) (fun h3 => ?_)
            · try simp only [decide_eq_true_eq, decide_eq_false_iff_not, Int.not_lt, Int.not_le, ne_eq, Decidable.not_not, gt_iff_lt, ge_iff_le] at h3
              refine o_mv (.bool _) rfl rfl rfl rfl ?_
              refine o_not rfl rfl rfl rfl ?_
              refine o_pick1 (.bool _) rfl rfl rfl rfl rfl ?_
              refine o_pick0 (.bool _) rfl rfl rfl rfl rfl ?_
              refine XO_end rfl ?_
              refine thenX_normal ?_
              exact ⟨[(0, .pointer (some ⟨q, 0, none⟩)), (1, .int .i64 (st : Int)), (6, .slice a6 acc.length k6), (7, .int .i64 (i : Int)), (8, .slice (some ⟨b8, o8, none⟩) 64 k8), (10, .int .i64 ((cntB bs : Nat) : Int)), (11, .bool (isLast bs)), (56, .bool (!isLast bs))], Agrees.cons rfl (Agrees.cons rfl (Agrees.cons rfl (Agrees.cons rfl (Agrees.cons rfl (Agrees.cons rfl (Agrees.cons rfl (Agrees.cons rfl (Agrees.nil _)))))))), ⟨_, rfl, rfl, by unfold badCnt; cases isLast bs <;> simp <;> omega⟩⟩
            · try simp only [decide_eq_true_eq, decide_eq_false_iff_not, Int.not_lt, Int.not_le, ne_eq, Decidable.not_not, gt_iff_lt, ge_iff_le] at h3
              refine XO_barred rfl rfl rfl rfl ?_
              refine XO_barred rfl rfl rfl rfl ?_
              refine o_pick0 (.bool _) rfl rfl rfl rfl rfl ?_
              refine o_pick0 (.bool _) rfl rfl rfl rfl rfl ?_
              refine XO_end rfl ?_
              refine thenX_normal ?_
              exact ⟨[(0, .pointer (some ⟨q, 0, none⟩)), (1, .int .i64 (st : Int)), (6, .slice a6 acc.length k6), (7, .int .i64 (i : Int)), (8, .slice (some ⟨b8, o8, none⟩) 64 k8), (10, .int .i64 ((cntB bs : Nat) : Int)), (11, .bool (isLast bs)), (56, .bool false)], Agrees.cons rfl (Agrees.cons rfl (Agrees.cons rfl (Agrees.cons rfl (Agrees.cons rfl (Agrees.cons rfl (Agrees.cons rfl (Agrees.cons rfl (Agrees.nil _)))))))), ⟨false, rfl, rfl, by unfold badCnt; simp; omega⟩⟩
      · intro l w' g ⟨bad, hl, hw, hbad⟩
        subst hl; subst hw
        refine XC_cond rfl rfl (fun h56 => ?_) (fun h56 => ?_)
        · try simp only [decide_eq_true_eq, decide_eq_false_iff_not, Int.not_lt, Int.not_le, ne_eq, Decidable.not_not, gt_iff_lt, ge_iff_le] at h56
          refine XC_seq rfl ?_
          refine XC_region rfl ?_
          refine o_as (.slice _ _ _) rfl rfl rfl rfl ?_
          refine o_as (.int _ _) rfl rfl rfl rfl ?_
          refine XO_end rfl ?_
          refine thenX_normal ?_
          refine XC_ret rfl ?_
          refine thenX_ret ?_
          refine inBlockX_ret ?_
          refine thenX_ret ?_
          refine thenX_ret ?_
          refine inBlockX_ret ?_
          refine thenX_ret ?_
          refine topX_ret ?_
          refine RetV_of (.tuple #[.slice _ _ _, .int _ _]) rfl ?_
          exact ⟨by rw [hrec, hstep, if_pos (hbad.1 h56)]; rfl, hcw5⟩
        · try simp only [decide_eq_true_eq, decide_eq_false_iff_not, Int.not_lt, Int.not_le, ne_eq, Decidable.not_not, gt_iff_lt, ge_iff_le] at h56
          refine XC_skip rfl ?_
          refine thenX_normal ?_
          exact ⟨[(0, .pointer (some ⟨q, 0, none⟩)), (1, .int .i64 (st : Int)), (6, .slice a6 acc.length k6), (7, .int .i64 (i : Int)), (8, .slice (some ⟨b8, o8, none⟩) 64 k8), (10, .int .i64 ((cntB bs : Nat) : Int)), (11, .bool (isLast bs))], Agrees.cons rfl (Agrees.cons rfl (Agrees.cons rfl (Agrees.cons rfl (Agrees.cons rfl (Agrees.cons rfl (Agrees.cons rfl (Agrees.nil _))))))), ⟨rfl, rfl, fun h => by rw [hbad.2 h] at h56; cases h56⟩⟩
    · intro l w' g ⟨hl, hw, hnb⟩
      subst hl; subst hw
      have hnb2 := hnb
      unfold badCnt at hnb2
      have hcn40 : 1 ≤ cntB bs ∧ cntB bs ≤ 40 := by omega
      have ho5 := own_keep ho8 hN5 (fun _ _ x => x)
      have hown5 := own_keep (own_keep hown hN (fun _ _ x => x)) hN5 (fun _ _ x => x)
      refine XC_seq rfl ?_
      refine XC_region rfl ?_
      refine o_mv (.slice _ _ _) rfl rfl rfl rfl ?_
      refine o_mv (.slice _ _ _) rfl rfl rfl rfl ?_
      refine o_mv (.int _ _) rfl rfl rfl rfl ?_
      refine o_add _ rfl rfl rfl rfl rfl (in64 (by omega) (by omega)) ?_
      refine o_cut (12) (12 + cntB bs) (k8) rfl rfl rfl Try.underlying28 Try.sizeOf5 rfl (fun _ => rfl) rfl ⟨_, _, rfl, by first | rfl | omega, by omega⟩ ⟨_, _, rfl, by first | rfl | omega, by omega⟩ ?_
      have hrow5 := (Row.of_own ho5).cut (lo := 12) (hi := 12 + cntB bs) (mx := k8) (by omega) (by omega) (by omega)
      have hpl := partB_len hl8 hcn40.2
      rw [show ((u8s bs).take (12 + cntB bs)).drop 12 = u8s (partB bs) by rw [partB, u8s_drop, u8s_take]] at hrow5
      rw [show 12 + cntB bs - 12 = cntB bs by omega] at hrow5
      rw [show 12 + cntB bs - 12 = cntB bs by omega]
      have hs5 := hcw5.size
      refine XO_stepd rfl rfl rfl rfl (m_app (bytes := 1) Try.underlying28 Try.typeInfo5 rfl rfl rfl rfl rfl rfl (hown5) (hrow5) (u8s_one _) (by omega) (by omega) (by omega) ?_)
      intro a7 k7 w6 ho7 hc7 hb7 hn7
      rw [← u8s_append, show acc.length + cntB bs = (acc ++ partB bs).length by rw [List.length_append, hpl]] at ho7
      rw [show acc.length + cntB bs = (acc ++ partB bs).length by rw [List.length_append, hpl]]
      have hcw6 : Chg No w w6 := hcw5.then hc7 (fun _ _ h => h) (fun i hi e => by have := own_blk hown5 i e; omega)
      have ho6 := own_keep ho5 hc7 (fun k hk e => by simp [Value.ownBlock] at hk; subst hk; have h1 := own_blk ho5 b8 ⟨_, rfl, rfl⟩; have h2 := own_blk hown b8 e; omega)
      have hq6 : At w6 q (.cells (walC p T) 104 (0, 0)) := (h.no hcw6).wa
      obtain ⟨a7', rfl⟩ : ∃ x, a7 = some x := by cases a7 with | none => exact absurd (hn7.1 rfl).2 (by omega) | some x => exact ⟨x, rfl⟩
      have hacc2 : Okb (acc ++ partB bs) := hacc.append (partB_ok hok8)
      have hal2 : (acc ++ partB bs).length = acc.length + cntB bs := by rw [List.length_append, hpl]
      have hdi : decide ((i : Int) = (st : Int)) = decide (i = st) := by rw [decide_eq_decide]; omega
      have hbs8 : bs.length = 64 := hl8
      refine o_as (.slice _ _ _) rfl rfl rfl rfl ?_
      refine XO_end rfl ?_
      refine thenX_normal ?_
      refine XC_seq rfl ?_
      refine XC_seq rfl ?_
      refine XC_draw (fun w' => At w' q (.cells (walC p T) 104 (0, 0))) Trymixed rfl 21 rfl ?_
      intro w7 hN7 hh7
      have hS := hq6.keep hN7 (fun x => x)
      refine q_mv (i := 0) (.slice _ _ _) rfl rfl rfl (by kernel_rfl) rfl (fun _ => ?_) hS
      refine q_len (i := 1) rfl rfl rfl (by kernel_rfl) Try.underlying28 rfl (fun _ => ?_) hS
      refine q_gtr (i := 2) rfl rfl rfl (by kernel_rfl) rfl rfl (fun _ => ?_) hS
      refine q_mv (i := 3) (.bool _) rfl rfl rfl (by kernel_rfl) rfl (fun _ => ?_) hS
      refine XH_bool 66 rfl (fun h66 => ?_) (fun h66 => ?_)
      · try simp only [decide_eq_true_eq, decide_eq_false_iff_not, Int.not_lt, Int.not_le, ne_eq, Decidable.not_not, gt_iff_lt, ge_iff_le] at h66
        refine XH_barred (i := 4) rfl rfl rfl rfl (by kernel_rfl) (fun _ => ?_) hS
        refine XH_barred (i := 5) rfl rfl rfl rfl (by kernel_rfl) (fun _ => ?_) hS
        refine XH_barred (i := 6) rfl rfl rfl rfl (by kernel_rfl) (fun _ => ?_) hS
        refine XH_barred (i := 7) rfl rfl rfl rfl (by kernel_rfl) (fun _ => ?_) hS
        refine XH_barred (i := 8) rfl rfl rfl rfl (by kernel_rfl) (fun _ => ?_) hS
        refine XH_barred (i := 9) rfl rfl rfl rfl (by kernel_rfl) (fun _ => ?_) hS
        refine XH_barred (i := 10) rfl rfl rfl rfl (by kernel_rfl) (fun _ => ?_) hS
        refine XH_barred (i := 11) rfl rfl rfl rfl (by kernel_rfl) (fun _ => ?_) hS
        refine XH_barred (i := 12) rfl rfl rfl rfl (by kernel_rfl) (fun _ => ?_) hS
        refine XH_barred (i := 13) rfl rfl rfl rfl (by kernel_rfl) (fun _ => ?_) hS
        refine XH_barred (i := 14) rfl rfl rfl rfl (by kernel_rfl) (fun _ => ?_) hS
        refine XH_barred (i := 15) rfl rfl rfl rfl (by kernel_rfl) (fun _ => ?_) hS
        refine XH_barred (i := 16) rfl rfl rfl rfl (by kernel_rfl) (fun _ => ?_) hS
        refine XH_barred (i := 17) rfl rfl rfl rfl (by kernel_rfl) (fun _ => ?_) hS
        refine XH_barred (i := 18) rfl rfl rfl rfl (by kernel_rfl) (fun _ => ?_) hS
        refine XH_barred (i := 19) rfl rfl rfl rfl (by kernel_rfl) (fun _ => ?_) hS
        refine q_pick1 (i := 20) (.bool _) rfl rfl rfl (by kernel_rfl) rfl rfl (fun _ => ?_) hS
        refine XH_done (by kernel_rfl) hS ?_
        refine thenX_normal ?_
        refine XC_cond_true rfl rfl ?_
        refine XC_seq rfl ?_
        refine XC_region rfl ?_
        refine o_as (.slice _ _ _) rfl rfl rfl rfl ?_
        refine o_as (.int _ _) rfl rfl rfl rfl ?_
        refine XO_end rfl ?_
        refine thenX_normal ?_
        refine XC_ret rfl ?_
        refine thenX_ret ?_
        refine inBlockX_ret ?_
        refine thenX_ret ?_
        refine thenX_ret ?_
        refine inBlockX_ret ?_
        refine thenX_ret ?_
        refine topX_ret ?_
        refine RetV_of (.tuple #[.slice _ _ _, .int _ _]) rfl ?_
        exact ⟨by rw [hrec, hstep, if_neg hnb, if_pos (.inl (by omega))]; rfl, hcw6.trans hN7⟩
      · try simp only [decide_eq_true_eq, decide_eq_false_iff_not, Int.not_lt, Int.not_le, ne_eq, Decidable.not_not, gt_iff_lt, ge_iff_le] at h66
        refine q_mv (i := 4) (.slice _ _ _) rfl rfl rfl (by kernel_rfl) rfl (fun _ => ?_) hS
        refine q_mv (i := 5) (.pointer _) rfl rfl rfl (by kernel_rfl) rfl (fun _ => ?_) hS
        refine q_nilc (i := 6) rfl rfl rfl (by kernel_rfl) rfl (fun _ => ?_) hS
        refine q_fa0 (i := 7) 6 rfl rfl rfl (by kernel_rfl) Try.underlying104 rfl Try.sizeOf3 rfl rfl rfl (fun _ => ?_) hS
        refine q_ldB (i := 8) (.int _ _) rfl rfl rfl (by kernel_rfl) Try.isAgg3 rfl (fun _ h => h) rfl (fun _ => ?_) hS
        refine q_mv (i := 9) (.slice _ _ _) rfl rfl rfl (by kernel_rfl) rfl (fun _ => ?_) hS
        refine q_mv (i := 10) (.int _ _) rfl rfl rfl (by kernel_rfl) rfl (fun _ => ?_) hS
        refine q_add (i := 11) _ rfl rfl rfl (by kernel_rfl) rfl rfl (in64 (by omega) (by omega)) (fun _ => ?_) hS
        refine q_cut (i := 12) (12) (12 + cntB bs) (k8) rfl rfl rfl (by kernel_rfl) Try.underlying28 Try.sizeOf5 rfl (fun _ => rfl) rfl ⟨_, _, rfl, by first | rfl | omega, by omega⟩ ⟨_, _, rfl, by first | rfl | omega, by omega⟩ (fun _ => ?_) hS
        have ho7b := own_keep ho6 hN7 (fun _ _ x => x)
        have hrow7 := (Row.of_own ho7b).cut (lo := 12) (hi := 12 + cntB bs) (mx := k8) (by omega) (by omega) (by omega)
        rw [show ((u8s bs).take (12 + cntB bs)).drop 12 = u8s (partB bs) by rw [partB, u8s_drop, u8s_take]] at hrow7
        rw [show 12 + cntB bs - 12 = cntB bs by omega] at hrow7
        rw [show 12 + cntB bs - 12 = cntB bs by omega]
        refine q_mv (i := 13) (.int _ _) rfl rfl rfl (by kernel_rfl) rfl (fun _ => ?_) hS
        refine q_mv (i := 14) (.int _ _) rfl rfl rfl (by kernel_rfl) rfl (fun _ => ?_) hS
        refine q_eql (i := 15) rfl rfl rfl (by kernel_rfl) rfl rfl (fun _ => ?_) hS
        refine q_mv (i := 16) (.bool _) rfl rfl rfl (by kernel_rfl) rfl (fun _ => ?_) hS
        refine XH_stepd (i := 17) rfl rfl rfl rfl (by kernel_rfl) hS (m_call Try.call61 (piece_ok (part := partB bs) hrow7 (by omega)) rfl ?_)
        rintro _ w8 ⟨⟨a9, k9, rfl, ho9⟩, hc8⟩
        replace hS := At.keep hS hc8 (fun x => x)
        refine XH_stepd (i := 18) rfl rfl rfl rfl (by kernel_rfl) hS (m_call Try.call73 (Equal_ok (x := bs) (Row.of_own (own_keep ho7b hc8 (fun _ _ x => x))) (Row.of_own ho9) hok8 (pieceB_ok (partB_ok hok8))) rfl ?_)
        rintro _ _ ⟨rfl, rfl⟩
        rw [hdi]
        have hcw8 := (hcw6.trans hN7).trans hc8
        refine q_not (i := 19) rfl rfl rfl (by kernel_rfl) rfl (fun _ => ?_) hS
        refine q_pick0 (i := 20) (.bool _) rfl rfl rfl (by kernel_rfl) rfl rfl (fun _ => ?_) hS
        refine XH_done (by kernel_rfl) hS ?_
        refine thenX_normal ?_
        refine XC_cond rfl rfl (fun h83 => ?_) (fun h83 => ?_)
        · try simp only [decide_eq_true_eq, decide_eq_false_iff_not, Int.not_lt, Int.not_le, ne_eq, Decidable.not_not, gt_iff_lt, ge_iff_le] at h83
          have hne : bs ≠ pieceB (T.next : Int) (partB bs) (decide (i = st)) (isLast bs) := by simpa using h83
          refine XC_seq rfl ?_
          refine XC_region rfl ?_
          refine o_as (.slice _ _ _) rfl rfl rfl rfl ?_
          refine o_as (.int _ _) rfl rfl rfl rfl ?_
          refine XO_end rfl ?_
          refine thenX_normal ?_
          refine XC_ret rfl ?_
          refine thenX_ret ?_
          refine inBlockX_ret ?_
          refine thenX_ret ?_
          refine thenX_ret ?_
          refine inBlockX_ret ?_
          refine thenX_ret ?_
          refine topX_ret ?_
          refine RetV_of (.tuple #[.slice _ _ _, .int _ _]) rfl ?_
          exact ⟨by rw [hrec, hstep, if_neg hnb, if_pos (.inr hne)]; rfl, hcw8⟩
        · try simp only [decide_eq_true_eq, decide_eq_false_iff_not, Int.not_lt, Int.not_le, ne_eq, Decidable.not_not, gt_iff_lt, ge_iff_le] at h83
          have hnn : ¬ (2000 < (acc ++ partB bs).length ∨ bs ≠ pieceB (T.next : Int) (partB bs) (decide (i = st)) (isLast bs)) := fun hx => hx.elim (fun hx => by omega) (fun hx => hx (by simpa using h83))
          have ho78 := own_keep (own_keep ho7 hN7 (fun _ _ x => x)) hc8 (fun _ _ x => x)
          refine XC_skip rfl ?_
          refine thenX_normal ?_
          refine XC_seq rfl ?_
          refine XC_region rfl ?_
          refine o_mv (.bool _) rfl rfl rfl rfl ?_
          refine XO_end rfl ?_
          refine thenX_normal ?_
          refine XC_cond rfl rfl (fun h84 => ?_) (fun h84 => ?_)
          · try simp only [decide_eq_true_eq, decide_eq_false_iff_not, Int.not_lt, Int.not_le, ne_eq, Decidable.not_not, gt_iff_lt, ge_iff_le] at h84
            refine XC_seq rfl ?_
            refine XC_region rfl ?_
            refine o_mv (.slice _ _ _) rfl rfl rfl rfl ?_
            refine o_as (.slice _ _ _) rfl rfl rfl rfl ?_
            refine o_as (.int _ _) rfl rfl rfl rfl ?_
            refine XO_end rfl ?_
            refine thenX_normal ?_
            refine XC_ret rfl ?_
            refine inBlockX_ret ?_
            refine thenX_ret ?_
            refine thenX_ret ?_
            refine inBlockX_ret ?_
            refine thenX_ret ?_
            refine topX_ret ?_
            refine RetV_of (.tuple #[.slice _ _ _, .int _ _]) rfl ?_
            exact ⟨by rw [hrec, hstep, if_neg hnb, if_neg hnn, if_pos h84]; exact ⟨a7', k7, rfl, ho78, hacc2, by omega, by omega⟩, hcw8⟩
          · try simp only [decide_eq_true_eq, decide_eq_false_iff_not, Int.not_lt, Int.not_le, ne_eq, Decidable.not_not, gt_iff_lt, ge_iff_le] at h84
            refine XC_skip rfl ?_
            refine inBlockX_normal ?_
            refine thenX_normal ?_
            refine XC_region rfl ?_
            refine o_mv (.int _ _) rfl rfl rfl rfl ?_
            refine o_add _ rfl rfl rfl rfl rfl (in64 (by omega) (by omega)) ?_
            refine o_as (.int _ _) rfl rfl rfl rfl ?_
            refine XO_end rfl ?_
            refine thenX_normal ?_
            exact ⟨T.size - (i + 1), [(0, .pointer (some ⟨q, 0, none⟩)), (1, .int .i64 (st : Int)), (6, .slice (some a7') (acc ++ partB bs).length k7), (7, .int .i64 ((i : Int) + 1))], by omega, Agrees.cons rfl (Agrees.cons rfl (Agrees.cons rfl (Agrees.cons rfl (Agrees.nil _)))), ⟨i + 1, some a7', k7, acc ++ partB bs, rfl, by omega, by omega, rfl, hcw8, ho78, hacc2, by omega, by rw [hrec, hstep, if_neg hnb, if_neg hnn, if_neg (by rw [h84]; exact Bool.false_ne_true)]⟩⟩
  · try simp only [decide_eq_true_eq, decide_eq_false_iff_not, Int.not_lt, Int.not_le, ne_eq, Decidable.not_not, gt_iff_lt, ge_iff_le] at hlt
    obtain rfl : i = T.size := by omega
    refine XC_exit rfl ?_
    refine thenX_exit ?_
    refine thenX_exit ?_
    refine inBlockX_here ?_
    refine thenX_normal ?_
    refine XC_seq rfl ?_
    refine XC_region rfl ?_
    refine o_as (.slice _ _ _) rfl rfl rfl rfl ?_
    refine o_as (.int _ _) rfl rfl rfl rfl ?_
    refine XO_end rfl ?_
    refine thenX_normal ?_
    refine XC_ret rfl ?_
    refine topX_ret ?_
    refine RetV_of (.tuple #[.slice _ _ _, .int _ _]) rfl ?_
    exact ⟨by rw [hrec, Nat.sub_self]; rfl, hcw⟩
end
end Go.Proofs.Ytijjnlfmlcbfpaa

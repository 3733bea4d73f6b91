/- The log's small functions: sealed, nought, need, may, a head's bytes, a record's sector. -/
import Derived.Test.YtijjnlfmlcbfpaaSum
import Derived.Test.YtijjnlfmlcbfpaaPlateM
set_option linter.unusedVariables false
set_option maxRecDepth 4000
namespace Go.Proofs.Ytijjnlfmlcbfpaa
open Go

/-- Bytes of its own: a slice whose row lies in a block that is new behind n blocks. -/
def OwnB (n : Nat) (w : World) (v : Value) (bs : Byt) : Prop := ∃ a c, v = .slice a bs.length c ∧ w.ownsRow n 5 1 (.slice a bs.length c) bs.length (u8s bs)
theorem OwnB.keep {n : Nat} {w w' : World} {v : Value} {bs : Byt} (h : OwnB n w v bs) (c : Chg No w w') : OwnB n w' v bs := let ⟨a, k, e, o⟩ := h; ⟨a, k, e, own_keep o c (fun _ _ x => x)⟩
theorem OwnB.lower {n m : Nat} {w : World} {v : Value} {bs : Byt} (h : OwnB n w v bs) (hm : m ≤ n) : OwnB m w v bs := let ⟨a, k, e, o⟩ := h; ⟨a, k, e, own_lower o hm⟩
theorem OwnB.slb {n : Nat} {w : World} {v : Value} {bs : Byt} (h : OwnB n w v bs) : SlB w v bs := let ⟨a, k, e, o⟩ := h; ⟨a, k, e, Row.of_own o⟩
theorem own_of_at {w : World} {n b L : Nat} {xs : List Value} {cs : Array Value} {T : TypeId} (h : At w b (.cells cs T (0, 0))) (hn : n ≤ b) (hL : L = xs.length) (hm : L ≤ 140737488355328) (hc : cs.toList = xs) : w.ownsRow n T 1 (.slice (some ⟨b, 0, none⟩) L L) L xs := by
  have hsz : cs.size = L := by rw [hL, ← hc]; simp
  exact ⟨by omega, .inr ⟨b, L, cs, rfl, hn, h, Nat.le_refl _, by unfold maxLen; omega, by omega, by rw [hc, Nat.mul_one, hL]; simp⟩⟩

theorem Row.of_cells {w : World} {b l : Nat} {xs : List Value} {T : TypeId} {z : Nat × Nat} (h : At w b (.cells xs.toArray T z)) (hl : xs.length = l) : Row w (some ⟨b, 0, none⟩) l xs := Row.of_at h hl (fun j v h => by simpa using h)
theorem u8s_append (a b : Byt) : u8s (a ++ b) = u8s a ++ u8s b := by simp [u8s]
theorem u8s_rep (n : Nat) : u8s (List.replicate n 0) = List.replicate n (.int .u8 0) := by simp [u8s]
theorem u8s_take (n : Nat) (b : Byt) : u8s (b.take n) = (u8s b).take n := by simp [u8s]
theorem u8s_drop (n : Nat) (b : Byt) : u8s (b.drop n) = (u8s b).drop n := by simp [u8s]
theorem Okb.append {a b : Byt} (ha : Okb a) (hb : Okb b) : Okb (a ++ b) := fun x hx => (List.mem_append.1 hx).elim (ha x) (hb x)
theorem Okb.rep (n : Nat) : Okb (List.replicate n 0) := fun x hx => by rw [List.eq_of_mem_replicate hx]; omega
theorem wrap_u8 (n : Int) : 0 ≤ IntKind.u8.wrap n ∧ IntKind.u8.wrap n ≤ 255 := by
  simp only [IntKind.wrap, IntKind.bits, IntKind.signed]; simp; omega

def padB (b : Byt) : Byt := b ++ List.replicate (59 - b.length) 0
def sum4 (s : Int) : Byt := [IntKind.u8.wrap (s / 2 ^ (24 : Int).toNat), IntKind.u8.wrap (s / 2 ^ (16 : Int).toNat), IntKind.u8.wrap (s / 2 ^ (8 : Int).toNat), IntKind.u8.wrap s, 167]
def sealedB (b : Byt) : Byt := padB b ++ sum4 (sumB (padB b))
theorem padB_len {b : Byt} (h : b.length ≤ 59) : (padB b).length = 59 := by simp [padB]; omega
theorem sealedB_len {b : Byt} (h : b.length ≤ 59) : (sealedB b).length = 64 := by simp [sealedB, padB_len h, sum4]
theorem sum4_ok (s : Int) : Okb (sum4 s) := by
  intro x hx
  simp only [sum4, List.mem_cons, List.not_mem_nil, or_false] at hx
  rcases hx with rfl | rfl | rfl | rfl | rfl
  · exact wrap_u8 _
  · exact wrap_u8 _
  · exact wrap_u8 _
  · exact wrap_u8 _
  · omega
theorem padB_ok {b : Byt} (h : Okb b) : Okb (padB b) := h.append (Okb.rep _)
theorem sealedB_ok {b : Byt} (h : Okb b) : Okb (sealedB b) := (padB_ok h).append (sum4_ok _)

theorem sealed_ok {w : World} {a : Option Addr} {L c : Nat} {bs : Byt} (hr : Row w a L (u8s bs)) (hl : L ≤ 59) :
    Ret Try.prog 100 #[.slice a L c] w fun v w' => OwnB w.heap.size w' v (sealedB bs) ∧ Chg No w w' := by
  have hbl : bs.length = L := by have := hr.1; rwa [u8s_len] at this
  have hpl := padB_len (b := bs) (by omega)
  refine Ret_of_X 28 Try.func100 rfl Try.ntmps100 rfl rfl ?_
  refine XC_seq rfl ?_
  refine XC_region rfl ?_
  refine o_as (.slice _ _ _) rfl rfl rfl rfl ?_
  refine XO_end rfl ?_
  refine thenX_normal ?_
  refine XC_seq rfl ?_
  refine XC_region rfl ?_
  refine XO_stepd rfl rfl rfl rfl (m_mksl (bytes := 1) (64) (64) Try.underlying28 Try.typeInfo5 rfl rfl rfl rfl rfl rfl (by first | rfl | omega) (by first | rfl | omega) (by omega) (by omega) (by omega) ?_)
  intro w1 hc1 hs1 hB1
  refine o_as (.slice _ _ _) rfl rfl rfl rfl ?_
  refine XO_end rfl ?_
  refine thenX_normal ?_
  refine XC_seq rfl ?_
  refine XC_region rfl ?_
  refine o_mv (.slice _ _ _) rfl rfl rfl rfl ?_
  refine o_mv (.slice _ _ _) rfl rfl rfl rfl ?_
  refine XO_stepd rfl rfl rfl rfl (m_copy (L) Try.underlying28 Try.sizeOf5 rfl rfl (hB1) (hr.keepNo hc1) (u8s_one bs) (by first | rfl | omega) (by first | (simp; done) | (simp; omega) | omega) ?_)
  intro w2 hc2 hs2 hB2
  refine XO_end rfl ?_
  refine thenX_normal ?_
  have hcs : over (List.replicate 64 (.int .u8 0)) 0 ((u8s bs).take L) = u8s (padB bs ++ List.replicate 5 0) := by
    rw [List.take_of_length_le (by rw [u8s_len]; omega)]
    simp only [over, List.take_zero, List.nil_append, u8s_len, Nat.zero_add, padB, List.append_assoc, u8s_append, u8s_rep, List.drop_replicate, List.replicate_append_replicate]
    congr 2; omega
  have hsz2 : (u8s (padB bs ++ List.replicate 5 0)).toArray.size = 64 := by simp [u8s_len, hpl]
  have hB2' : At w2 w.heap.size (.cells (u8s (padB bs ++ List.replicate 5 0)).toArray 5 (0, 0)) := by rw [← hcs]; simpa using hB2
  have hc02 : Chg No w w2 := hc1.then hc2 (fun _ _ h => h) (fun i hi e => by omega)
  refine XC_seq rfl ?_
  refine XC_region rfl ?_
  refine o_mv (.slice _ _ _) rfl rfl rfl rfl ?_
  refine o_cut (0) (59) (64) rfl rfl rfl Try.underlying28 Try.sizeOf5 rfl (fun _ => rfl) rfl ⟨_, _, rfl, by first | rfl | omega, by omega⟩ rfl ?_
  rw [cutAt_zero]
  have hrow : Row w2 (some ⟨w.heap.size, 0, none⟩) 59 (u8s (padB bs)) := Row.of_at hB2' (by rw [u8s_len, hpl]) (fun j v h => by rw [u8s_append]; simp only [List.toList_toArray, Nat.zero_add]; rw [List.getElem?_append_left (List.getElem?_eq_some_iff.1 h).1]; exact h)
  refine XO_stepd rfl rfl rfl rfl (m_call Try.call119 (Sum_ok hrow (by omega)) rfl ?_)
  rintro _ _ ⟨rfl, rfl⟩
  refine o_as (.int _ _) rfl rfl rfl rfl ?_
  refine XO_end rfl ?_
  refine thenX_normal ?_
  refine XC_seq rfl ?_
  refine XC_region rfl ?_
  refine o_mv (.slice _ _ _) rfl rfl rfl rfl ?_
  refine o_cut (59) (64) (64) rfl rfl rfl Try.underlying28 Try.sizeOf5 rfl (fun _ => rfl) rfl rfl ⟨_, _, rfl, by first | rfl | omega, by omega⟩ ?_
  rw [show cutAt 64 59 (some ⟨w.heap.size, 0, none⟩) = some ⟨w.heap.size, 0 + 59, none⟩ from cutAt_some (by omega)]
  refine o_mv (.int _ _) rfl rfl rfl rfl ?_
  refine o_shr (_) rfl rfl rfl rfl rfl (by decide) (by decide) rfl ?_
  refine o_cvi (_) rfl rfl rfl Try.underlying5 (by rw [Try.underlying63]; rfl) rfl rfl ?_
  refine o_mv (.int _ _) rfl rfl rfl rfl ?_
  refine o_shr (_) rfl rfl rfl rfl rfl (by decide) (by decide) rfl ?_
  refine o_cvi (_) rfl rfl rfl Try.underlying5 (by rw [Try.underlying63]; rfl) rfl rfl ?_
  refine o_mv (.int _ _) rfl rfl rfl rfl ?_
  refine o_shr (_) rfl rfl rfl rfl rfl (by decide) (by decide) rfl ?_
  refine o_cvi (_) rfl rfl rfl Try.underlying5 (by rw [Try.underlying63]; rfl) rfl rfl ?_
  refine o_mv (.int _ _) rfl rfl rfl rfl ?_
  refine o_cvi (_) rfl rfl rfl Try.underlying5 (by rw [Try.underlying63]; rfl) rfl rfl ?_
  refine XO_stepd rfl rfl rfl rfl (m_bsl [.int _ _, .int _ _, .int _ _, .int _ _, .int _ _] Try.underlying28 Try.sizeOf5 Try.zeroValue5 rfl rfl rfl rfl (by simp [Value.oneCell']) ?_)
  intro w3 hc3 hs3 hB3
  have hrow3 : Row w3 (some ⟨w2.heap.size, 0, none⟩) 5 (u8s (sum4 (sumB (padB bs)))) := Row.of_at hB3 rfl (fun j v h => by simpa [sum4, u8s] using h)
  refine XO_stepd rfl rfl rfl rfl (m_copy (5) Try.underlying28 Try.sizeOf5 rfl rfl (hB2'.keep hc3 (fun h => h)) (hrow3) (u8s_one _) (by first | rfl | omega) (by first | (simp; done) | (simp; omega) | omega) ?_)
  intro w4 hc4 hs4 hB4
  refine XO_end rfl ?_
  refine thenX_normal ?_
  have hcs4 : over (u8s (padB bs ++ List.replicate 5 0)) (0 + 59) ((u8s (sum4 (sumB (padB bs)))).take 5) = u8s (sealedB bs) := by
    rw [List.take_of_length_le (by rw [u8s_len]; simp [sum4])]
    simp only [over, u8s_append, u8s_len, Nat.zero_add]
    rw [List.take_append_of_le_length (by rw [u8s_len]; omega), List.take_of_length_le (by rw [u8s_len]; omega), List.drop_eq_nil_of_le (by simp [u8s_len, sum4, hpl, u8s_rep]), List.append_nil, ← u8s_append]; rfl
  have hB4' : At w4 w.heap.size (.cells (u8s (sealedB bs)).toArray 5 (0, 0)) := by rw [← hcs4]; simpa using hB4
  refine XC_seq rfl ?_
  refine XC_region rfl ?_
  refine o_mv (.slice _ _ _) rfl rfl rfl rfl ?_
  refine o_as (.slice _ _ _) rfl rfl rfl rfl ?_
  refine XO_end rfl ?_
  refine thenX_normal ?_
  refine XC_ret rfl ?_
  refine topX_ret ?_
  refine RetV_of (.slice _ _ _) rfl ?_
  exact ⟨⟨_, _, by rw [sealedB_len (by omega)], by rw [sealedB_len (by omega)]; exact own_of_at hB4' (Nat.le_refl _) (by rw [u8s_len, sealedB_len (by omega)]) (by omega) (by simp)⟩, (hc02.trans hc3).then hc4 (fun _ _ h => h) (fun i hi e => by omega)⟩

theorem nought_ok {w : World} {a : Option Addr} {L c : Nat} {bs : Byt} (hr : Row w a L (u8s bs)) (hok : Okb bs) :
    Ret Try.prog 104 #[.slice a L c] w fun v w' => v = .bool (decide (bs = noughts)) ∧ Chg No w w' := by
  refine Ret_of_X 6 Try.func104 rfl Try.ntmps104 rfl rfl ?_
  refine XC_seq rfl ?_
  refine XC_region rfl ?_
  refine o_as (.bool _) rfl rfl rfl rfl ?_
  refine XO_end rfl ?_
  refine thenX_normal ?_
  refine XC_seq rfl ?_
  refine XC_region rfl ?_
  refine o_mv (.slice _ _ _) rfl rfl rfl rfl ?_
  refine XO_stepd rfl rfl rfl rfl (m_mksl (bytes := 1) (64) (64) Try.underlying28 Try.typeInfo5 rfl rfl rfl rfl rfl rfl (by first | rfl | omega) (by first | rfl | omega) (by omega) (by omega) (by omega) ?_)
  intro w1 hc1 hs1 hB1
  refine XO_stepd rfl rfl rfl rfl (m_call Try.call73 (Equal_ok (y := noughts) (hr.keepNo hc1) (Row.of_at hB1 (by simp [u8s_len, noughts]) (fun j v h => by simpa [u8s, noughts] using h)) hok noughts_ok) rfl ?_)
  rintro _ _ ⟨rfl, rfl⟩
  refine o_as (.bool _) rfl rfl rfl rfl ?_
  refine XO_end rfl ?_
  refine thenX_normal ?_
  refine XC_ret rfl ?_
  refine topX_ret ?_
  refine RetV_of (.bool _) rfl ?_
  exact ⟨rfl, hc1⟩

def needN (n : Nat) : Nat := (n + 39) / 40
theorem need_ok {w : World} {a : Option Addr} {L c : Nat} (hL : L ≤ 140737488355328) :
    Ret Try.prog 58 #[.slice a L c] w fun v w' => v = .int .i64 (needN L : Int) ∧ w = w' := by
  refine Ret_of_X 8 Try.func58 rfl Try.ntmps58 rfl rfl ?_
  refine XC_seq rfl ?_
  refine XC_region rfl ?_
  refine o_as (.int _ _) rfl rfl rfl rfl ?_
  refine XO_end rfl ?_
  refine thenX_normal ?_
  refine XC_seq rfl ?_
  refine XC_region rfl ?_
  refine o_mv (.slice _ _ _) rfl rfl rfl rfl ?_
  refine o_len rfl rfl rfl Try.underlying28 rfl ?_
  refine o_add _ rfl rfl rfl rfl rfl (in64 (by omega) (by omega)) ?_
  refine o_sub _ rfl rfl rfl rfl rfl (in64 (by omega) (by omega)) ?_
  refine o_quo ((needN L : Int)) rfl rfl rfl rfl rfl (by omega) (by rw [show ((L : Int) + 40 - 1) = ((L + 39 : Nat) : Int) by omega, show (40 : Int) = ((40 : Nat) : Int) from rfl, ← Int.ofNat_tdiv]; exact in64 (by omega) (by omega)) ?_
  refine o_as (.int _ _) rfl rfl rfl rfl ?_
  refine XO_end rfl ?_
  refine thenX_normal ?_
  refine XC_ret rfl ?_
  refine topX_ret ?_
  refine RetV_of (.int _ _) rfl ?_
  exact ⟨rfl, rfl⟩

def mayN (n : Nat) : Bool := decide (0 < n ∧ n ≤ 2000)
theorem may_ok {w : World} {a : Option Addr} {L c : Nat} :
    Ret Try.prog 57 #[.slice a L c] w fun v w' => v = .bool (mayN L) ∧ w = w' := by
  refine Ret_of_X 11 Try.func57 rfl Try.ntmps57 rfl rfl ?_
  refine XC_seq rfl ?_
  refine XC_region rfl ?_
  refine o_as (.bool _) rfl rfl rfl rfl ?_
  refine XO_end rfl ?_
  refine thenX_normal ?_
  refine XC_seq rfl ?_
  refine XC_region rfl ?_
  refine o_mv (.slice _ _ _) rfl rfl rfl rfl ?_
  refine o_len rfl rfl rfl Try.underlying28 rfl ?_
  refine o_gtr rfl rfl rfl rfl rfl ?_
  refine o_mv (.bool _) rfl rfl rfl rfl ?_
  refine XO_bool 6 rfl (fun hb => ?_) (fun hb => ?_)
  · try simp only [decide_eq_true_eq, decide_eq_false_iff_not, Int.not_lt, Int.not_le, ne_eq, Decidable.not_not, gt_iff_lt, ge_iff_le] at hb
    refine o_mv (.slice _ _ _) rfl rfl rfl rfl ?_
    refine o_len rfl rfl rfl Try.underlying28 rfl ?_
    refine o_leq rfl rfl rfl rfl rfl ?_
    refine o_pick1 (.bool _) rfl rfl rfl rfl rfl ?_
    refine o_as (.bool _) rfl rfl rfl rfl ?_
    refine XO_end rfl ?_
    refine thenX_normal ?_
    refine XC_ret rfl ?_
    refine topX_ret ?_
    refine RetV_of (.bool _) rfl ?_
    exact ⟨by congr 1; unfold mayN; rw [decide_eq_decide]; omega, rfl⟩
  · try simp only [decide_eq_true_eq, decide_eq_false_iff_not, Int.not_lt, Int.not_le, ne_eq, Decidable.not_not, gt_iff_lt, ge_iff_le] at hb
    refine XO_barred rfl rfl rfl rfl ?_
    refine XO_barred rfl rfl rfl rfl ?_
    refine XO_barred rfl rfl rfl rfl ?_
    refine o_pick0 (.bool _) rfl rfl rfl rfl rfl ?_
    refine o_as (.bool _) rfl rfl rfl rfl ?_
    refine XO_end rfl ?_
    refine thenX_normal ?_
    refine XC_ret rfl ?_
    refine topX_ret ?_
    refine RetV_of (.bool _) rfl ?_
    exact ⟨by congr 1; unfold mayN; symm; rw [decide_eq_false_iff_not]; omega, rfl⟩

theorem slb_cons {w : World} {v : Value} {b : Byt} {vs : List Value} {bs : List Byt} (h : SlB w v b) (hs : ∀ (j : Nat) (v : Value) (b : Byt), vs[j]? = some v → bs[j]? = some b → SlB w v b) :
    ∀ (j : Nat) (u : Value) (c : Byt), (v :: vs)[j]? = some u → (b :: bs)[j]? = some c → SlB w u c := by
  intro j u c hu hc
  cases j with
  | zero => simp at hu hc; subst hu; subst hc; exact h
  | succ j => exact hs j u c (by simpa using hu) (by simpa using hc)
theorem slb_nil {w : World} : ∀ (j : Nat) (u : Value) (c : Byt), ([] : List Value)[j]? = some u → ([] : List Byt)[j]? = some c → SlB w u c := fun j u c h => by simp at h

def headRaw (n l p f : Int) : List Byt := [[104], eightB n, eightB l, eightB p, eightB f]
def headB (n l p f : Int) : Byt := sealedB (headRaw n l p f).flatten
theorem headRaw_len (n l p f : Int) : (headRaw n l p f).flatten.length = 33 := by simp [headRaw, eightB_len]
theorem headRaw_ok (n l p f : Int) : Okb (headRaw n l p f).flatten := by
  intro x hx
  simp only [headRaw, List.flatten_cons, List.flatten_nil, List.append_nil, List.mem_append, List.mem_cons, List.not_mem_nil, or_false] at hx
  rcases hx with rfl | h | h | h | h
  · omega
  all_goals exact eightB_ok _ x h
theorem headB_len (n l p f : Int) : (headB n l p f).length = 64 := sealedB_len (by rw [headRaw_len]; omega)
theorem headB_ok (n l p f : Int) : Okb (headB n l p f) := sealedB_ok (headRaw_ok _ _ _ _)

theorem headBytes_ok {w : World} {n l p f : Int} :
    Ret Try.prog 103 #[.agg #[.int .i64 n, .int .i64 l, .int .i64 p, .int .i64 f]] w fun v w' => OwnB w.heap.size w' v (headB n l p f) ∧ Chg No w w' := by
  refine Ret_of_X 19 Try.func103 rfl Try.ntmps103 rfl rfl ?_
  refine XC_seq rfl ?_
  refine XC_region rfl ?_
  refine XO_stepd rfl rfl rfl rfl (m_box (.agg _) [.int _ _, .int _ _, .int _ _, .int _ _] rfl rfl ?_)
  intro w1 hc1 hs1 hB1
  refine o_as (.slice _ _ _) rfl rfl rfl rfl ?_
  refine XO_end rfl ?_
  refine thenX_normal ?_
  refine XC_seq rfl ?_
  refine XC_draw (fun w' => Chg No w1 w') Trymixed rfl 17 rfl ?_
  intro w2 hc2 hh2
  have hS := hc2
  refine q_fa0 (i := 1) 0 rfl rfl rfl (by kernel_rfl) Try.underlying102 rfl Try.sizeOf3 rfl rfl rfl (fun _ => ?_) hS
  refine q_ld (i := 2) (.int _ _) rfl rfl rfl (by kernel_rfl) Try.isAgg3 rfl (fun _ h => by rw [(hB1.keep h (fun x => x)).cell]; rfl) (fun _ => ?_) hS
  refine q_fa0 (i := 4) 1 rfl rfl rfl (by kernel_rfl) Try.underlying102 rfl Try.sizeOf3 rfl rfl rfl (fun _ => ?_) hS
  refine q_ld (i := 5) (.int _ _) rfl rfl rfl (by kernel_rfl) Try.isAgg3 rfl (fun _ h => by rw [(hB1.keep h (fun x => x)).cell]; rfl) (fun _ => ?_) hS
  refine q_fa0 (i := 7) 2 rfl rfl rfl (by kernel_rfl) Try.underlying102 rfl Try.sizeOf3 rfl rfl rfl (fun _ => ?_) hS
  refine q_ld (i := 8) (.int _ _) rfl rfl rfl (by kernel_rfl) Try.isAgg3 rfl (fun _ h => by rw [(hB1.keep h (fun x => x)).cell]; rfl) (fun _ => ?_) hS
  refine q_fa0 (i := 10) 3 rfl rfl rfl (by kernel_rfl) Try.underlying102 rfl Try.sizeOf3 rfl rfl rfl (fun _ => ?_) hS
  refine q_ld (i := 11) (.int _ _) rfl rfl rfl (by kernel_rfl) Try.isAgg3 rfl (fun _ h => by rw [(hB1.keep h (fun x => x)).cell]; rfl) (fun _ => ?_) hS
  refine XH_some [0, 3] (by kernel_rfl) rfl hS ?_
  intro i hi; simp only [List.mem_cons, List.not_mem_nil, or_false] at hi; rcases hi with rfl | rfl
  · refine XHop_stepd rfl rfl rfl rfl (m_bsl [.int _ _] Try.underlying28 Try.sizeOf5 Try.zeroValue5 rfl rfl rfl rfl (by simp [Value.oneCell']) ?_)
    intro wa hca hsa hBa
    replace hS := Chg.trans hS hca
    have f3 : SlB wa (.slice (some ⟨_, 0, none⟩) 1 1) [104] := ⟨_, _, rfl, Row.of_at hBa rfl (fun j v h => by simpa [u8s] using h)⟩
    try replace f6 := SlB.keepNo f6 hca
    try replace f9 := SlB.keepNo f9 hca
    try replace f12 := SlB.keepNo f12 hca
    try replace f15 := SlB.keepNo f15 hca
    refine XH_stepd (i := 3) rfl rfl rfl rfl (by kernel_rfl) hS (m_call Try.call101 (eight_ok) rfl ?_)
    rintro _ wb ⟨a6, c6, rfl, ho6, hcb⟩
    replace hS := Chg.trans hS hcb
    have f6 : SlB wb (.slice a6 8 c6) (eightB n) := ⟨_, _, by rw [eightB_len], by rw [eightB_len]; exact Row.of_own ho6⟩
    try replace f3 := SlB.keepNo f3 hcb
    refine XH_stepd (i := 6) rfl rfl rfl rfl (by kernel_rfl) hS (m_call Try.call101 (eight_ok) rfl ?_)
    rintro _ wc ⟨a9, c9, rfl, ho9, hcc⟩
    replace hS := Chg.trans hS hcc
    have f9 : SlB wc (.slice a9 8 c9) (eightB l) := ⟨_, _, by rw [eightB_len], by rw [eightB_len]; exact Row.of_own ho9⟩
    try replace f3 := SlB.keepNo f3 hcc
    try replace f6 := SlB.keepNo f6 hcc
    refine XH_stepd (i := 9) rfl rfl rfl rfl (by kernel_rfl) hS (m_call Try.call101 (eight_ok) rfl ?_)
    rintro _ wd ⟨a12, c12, rfl, ho12, hcd⟩
    replace hS := Chg.trans hS hcd
    have f12 : SlB wd (.slice a12 8 c12) (eightB p) := ⟨_, _, by rw [eightB_len], by rw [eightB_len]; exact Row.of_own ho12⟩
    try replace f3 := SlB.keepNo f3 hcd
    try replace f6 := SlB.keepNo f6 hcd
    try replace f9 := SlB.keepNo f9 hcd
    refine XH_stepd (i := 12) rfl rfl rfl rfl (by kernel_rfl) hS (m_call Try.call101 (eight_ok) rfl ?_)
    rintro _ we ⟨a15, c15, rfl, ho15, hce⟩
    replace hS := Chg.trans hS hce
    have f15 : SlB we (.slice a15 8 c15) (eightB f) := ⟨_, _, by rw [eightB_len], by rw [eightB_len]; exact Row.of_own ho15⟩
    try replace f3 := SlB.keepNo f3 hce
    try replace f6 := SlB.keepNo f6 hce
    try replace f9 := SlB.keepNo f9 hce
    try replace f12 := SlB.keepNo f12 hce
    refine XH_stepd (i := 13) rfl rfl rfl rfl (by kernel_rfl) hS (m_bsl [.slice _ _ _, .slice _ _ _, .slice _ _ _, .slice _ _ _, .slice _ _ _] Try.underlying22 Try.sizeOf28 Try.zeroValue28 rfl rfl rfl rfl (by simp [Value.oneCell']) ?_)
    intro wf hcf hsf hBf
    replace hS := Chg.trans hS hcf
    have hrow := Row.of_cells (l := 5) hBf rfl
    refine XH_stepd (i := 14) rfl rfl rfl rfl (by kernel_rfl) hS (m_call Try.call64 (Concat_ok (bss := headRaw n l p f) hrow rfl (slb_cons (f3.keepNo hcf) (slb_cons (f6.keepNo hcf) (slb_cons (f9.keepNo hcf) (slb_cons (f12.keepNo hcf) (slb_cons (f15.keepNo hcf) slb_nil))))) (by omega) (by rw [headRaw_len]; omega)) rfl ?_)
    rintro _ wg ⟨a17, c17, rfl, ho17, hcg, hn17⟩
    replace hS := Chg.trans hS hcg
    have hge : w.heap.size ≤ wg.heap.size := Nat.le_trans hc1.size (Chg.size hS)
    refine XH_stepd (i := 15) rfl rfl rfl rfl (by kernel_rfl) hS (m_call Try.call100 (sealed_ok (bs := (headRaw n l p f).flatten) (Row.of_own ho17) (by rw [headRaw_len]; omega)) rfl ?_)
    rintro _ wh ⟨⟨a18, c18, rfl, ho18⟩, hch⟩
    replace hS := Chg.trans hS hch
    refine q_as (i := 16) (.slice _ _ _) rfl rfl rfl (by kernel_rfl) rfl (fun _ => ?_) hS
    refine XH_done (by kernel_rfl) hS ?_
    refine thenX_normal ?_
    refine XC_ret rfl ?_
    refine topX_ret ?_
    refine RetV_of (.slice _ _ _) rfl ?_
    exact ⟨OwnB.lower ⟨_, _, rfl, ho18⟩ hge, hc1.trans hS⟩
  · refine XHop_stepd rfl rfl rfl rfl (m_call Try.call101 (eight_ok) rfl ?_)
    rintro _ wb ⟨a6, c6, rfl, ho6, hcb⟩
    replace hS := Chg.trans hS hcb
    have f6 : SlB wb (.slice a6 8 c6) (eightB n) := ⟨_, _, by rw [eightB_len], by rw [eightB_len]; exact Row.of_own ho6⟩
    try replace f3 := SlB.keepNo f3 hcb
    refine XH_some [0, 6] (by kernel_rfl) rfl hS ?_
    intro i hi; simp only [List.mem_cons, List.not_mem_nil, or_false] at hi; rcases hi with rfl | rfl
    · refine XHop_stepd rfl rfl rfl rfl (m_bsl [.int _ _] Try.underlying28 Try.sizeOf5 Try.zeroValue5 rfl rfl rfl rfl (by simp [Value.oneCell']) ?_)
      intro wa hca hsa hBa
      replace hS := Chg.trans hS hca
      have f3 : SlB wa (.slice (some ⟨_, 0, none⟩) 1 1) [104] := ⟨_, _, rfl, Row.of_at hBa rfl (fun j v h => by simpa [u8s] using h)⟩
      try replace f6 := SlB.keepNo f6 hca
      try replace f9 := SlB.keepNo f9 hca
      try replace f12 := SlB.keepNo f12 hca
      try replace f15 := SlB.keepNo f15 hca
      refine XH_stepd (i := 6) rfl rfl rfl rfl (by kernel_rfl) hS (m_call Try.call101 (eight_ok) rfl ?_)
      rintro _ wc ⟨a9, c9, rfl, ho9, hcc⟩
      replace hS := Chg.trans hS hcc
      have f9 : SlB wc (.slice a9 8 c9) (eightB l) := ⟨_, _, by rw [eightB_len], by rw [eightB_len]; exact Row.of_own ho9⟩
      try replace f3 := SlB.keepNo f3 hcc
      try replace f6 := SlB.keepNo f6 hcc
      refine XH_stepd (i := 9) rfl rfl rfl rfl (by kernel_rfl) hS (m_call Try.call101 (eight_ok) rfl ?_)
      rintro _ wd ⟨a12, c12, rfl, ho12, hcd⟩
      replace hS := Chg.trans hS hcd
      have f12 : SlB wd (.slice a12 8 c12) (eightB p) := ⟨_, _, by rw [eightB_len], by rw [eightB_len]; exact Row.of_own ho12⟩
      try replace f3 := SlB.keepNo f3 hcd
      try replace f6 := SlB.keepNo f6 hcd
      try replace f9 := SlB.keepNo f9 hcd
      refine XH_stepd (i := 12) rfl rfl rfl rfl (by kernel_rfl) hS (m_call Try.call101 (eight_ok) rfl ?_)
      rintro _ we ⟨a15, c15, rfl, ho15, hce⟩
      replace hS := Chg.trans hS hce
      have f15 : SlB we (.slice a15 8 c15) (eightB f) := ⟨_, _, by rw [eightB_len], by rw [eightB_len]; exact Row.of_own ho15⟩
      try replace f3 := SlB.keepNo f3 hce
      try replace f6 := SlB.keepNo f6 hce
      try replace f9 := SlB.keepNo f9 hce
      try replace f12 := SlB.keepNo f12 hce
      refine XH_stepd (i := 13) rfl rfl rfl rfl (by kernel_rfl) hS (m_bsl [.slice _ _ _, .slice _ _ _, .slice _ _ _, .slice _ _ _, .slice _ _ _] Try.underlying22 Try.sizeOf28 Try.zeroValue28 rfl rfl rfl rfl (by simp [Value.oneCell']) ?_)
      intro wf hcf hsf hBf
      replace hS := Chg.trans hS hcf
      have hrow := Row.of_cells (l := 5) hBf rfl
      refine XH_stepd (i := 14) rfl rfl rfl rfl (by kernel_rfl) hS (m_call Try.call64 (Concat_ok (bss := headRaw n l p f) hrow rfl (slb_cons (f3.keepNo hcf) (slb_cons (f6.keepNo hcf) (slb_cons (f9.keepNo hcf) (slb_cons (f12.keepNo hcf) (slb_cons (f15.keepNo hcf) slb_nil))))) (by omega) (by rw [headRaw_len]; omega)) rfl ?_)
      rintro _ wg ⟨a17, c17, rfl, ho17, hcg, hn17⟩
      replace hS := Chg.trans hS hcg
      have hge : w.heap.size ≤ wg.heap.size := Nat.le_trans hc1.size (Chg.size hS)
      refine XH_stepd (i := 15) rfl rfl rfl rfl (by kernel_rfl) hS (m_call Try.call100 (sealed_ok (bs := (headRaw n l p f).flatten) (Row.of_own ho17) (by rw [headRaw_len]; omega)) rfl ?_)
      rintro _ wh ⟨⟨a18, c18, rfl, ho18⟩, hch⟩
      replace hS := Chg.trans hS hch
      refine q_as (i := 16) (.slice _ _ _) rfl rfl rfl (by kernel_rfl) rfl (fun _ => ?_) hS
      refine XH_done (by kernel_rfl) hS ?_
      refine thenX_normal ?_
      refine XC_ret rfl ?_
      refine topX_ret ?_
      refine RetV_of (.slice _ _ _) rfl ?_
      exact ⟨OwnB.lower ⟨_, _, rfl, ho18⟩ hge, hc1.trans hS⟩
    · refine XHop_stepd rfl rfl rfl rfl (m_call Try.call101 (eight_ok) rfl ?_)
      rintro _ wc ⟨a9, c9, rfl, ho9, hcc⟩
      replace hS := Chg.trans hS hcc
      have f9 : SlB wc (.slice a9 8 c9) (eightB l) := ⟨_, _, by rw [eightB_len], by rw [eightB_len]; exact Row.of_own ho9⟩
      try replace f3 := SlB.keepNo f3 hcc
      try replace f6 := SlB.keepNo f6 hcc
      refine XH_some [0, 9] (by kernel_rfl) rfl hS ?_
      intro i hi; simp only [List.mem_cons, List.not_mem_nil, or_false] at hi; rcases hi with rfl | rfl
      · refine XHop_stepd rfl rfl rfl rfl (m_bsl [.int _ _] Try.underlying28 Try.sizeOf5 Try.zeroValue5 rfl rfl rfl rfl (by simp [Value.oneCell']) ?_)
        intro wa hca hsa hBa
        replace hS := Chg.trans hS hca
        have f3 : SlB wa (.slice (some ⟨_, 0, none⟩) 1 1) [104] := ⟨_, _, rfl, Row.of_at hBa rfl (fun j v h => by simpa [u8s] using h)⟩
        try replace f6 := SlB.keepNo f6 hca
        try replace f9 := SlB.keepNo f9 hca
        try replace f12 := SlB.keepNo f12 hca
        try replace f15 := SlB.keepNo f15 hca
        refine XH_stepd (i := 9) rfl rfl rfl rfl (by kernel_rfl) hS (m_call Try.call101 (eight_ok) rfl ?_)
        rintro _ wd ⟨a12, c12, rfl, ho12, hcd⟩
        replace hS := Chg.trans hS hcd
        have f12 : SlB wd (.slice a12 8 c12) (eightB p) := ⟨_, _, by rw [eightB_len], by rw [eightB_len]; exact Row.of_own ho12⟩
        try replace f3 := SlB.keepNo f3 hcd
        try replace f6 := SlB.keepNo f6 hcd
        try replace f9 := SlB.keepNo f9 hcd
        refine XH_stepd (i := 12) rfl rfl rfl rfl (by kernel_rfl) hS (m_call Try.call101 (eight_ok) rfl ?_)
        rintro _ we ⟨a15, c15, rfl, ho15, hce⟩
        replace hS := Chg.trans hS hce
        have f15 : SlB we (.slice a15 8 c15) (eightB f) := ⟨_, _, by rw [eightB_len], by rw [eightB_len]; exact Row.of_own ho15⟩
        try replace f3 := SlB.keepNo f3 hce
        try replace f6 := SlB.keepNo f6 hce
        try replace f9 := SlB.keepNo f9 hce
        try replace f12 := SlB.keepNo f12 hce
        refine XH_stepd (i := 13) rfl rfl rfl rfl (by kernel_rfl) hS (m_bsl [.slice _ _ _, .slice _ _ _, .slice _ _ _, .slice _ _ _, .slice _ _ _] Try.underlying22 Try.sizeOf28 Try.zeroValue28 rfl rfl rfl rfl (by simp [Value.oneCell']) ?_)
        intro wf hcf hsf hBf
        replace hS := Chg.trans hS hcf
        have hrow := Row.of_cells (l := 5) hBf rfl
        refine XH_stepd (i := 14) rfl rfl rfl rfl (by kernel_rfl) hS (m_call Try.call64 (Concat_ok (bss := headRaw n l p f) hrow rfl (slb_cons (f3.keepNo hcf) (slb_cons (f6.keepNo hcf) (slb_cons (f9.keepNo hcf) (slb_cons (f12.keepNo hcf) (slb_cons (f15.keepNo hcf) slb_nil))))) (by omega) (by rw [headRaw_len]; omega)) rfl ?_)
        rintro _ wg ⟨a17, c17, rfl, ho17, hcg, hn17⟩
        replace hS := Chg.trans hS hcg
        have hge : w.heap.size ≤ wg.heap.size := Nat.le_trans hc1.size (Chg.size hS)
        refine XH_stepd (i := 15) rfl rfl rfl rfl (by kernel_rfl) hS (m_call Try.call100 (sealed_ok (bs := (headRaw n l p f).flatten) (Row.of_own ho17) (by rw [headRaw_len]; omega)) rfl ?_)
        rintro _ wh ⟨⟨a18, c18, rfl, ho18⟩, hch⟩
        replace hS := Chg.trans hS hch
        refine q_as (i := 16) (.slice _ _ _) rfl rfl rfl (by kernel_rfl) rfl (fun _ => ?_) hS
        refine XH_done (by kernel_rfl) hS ?_
        refine thenX_normal ?_
        refine XC_ret rfl ?_
        refine topX_ret ?_
        refine RetV_of (.slice _ _ _) rfl ?_
        exact ⟨OwnB.lower ⟨_, _, rfl, ho18⟩ hge, hc1.trans hS⟩
      · refine XHop_stepd rfl rfl rfl rfl (m_call Try.call101 (eight_ok) rfl ?_)
        rintro _ wd ⟨a12, c12, rfl, ho12, hcd⟩
        replace hS := Chg.trans hS hcd
        have f12 : SlB wd (.slice a12 8 c12) (eightB p) := ⟨_, _, by rw [eightB_len], by rw [eightB_len]; exact Row.of_own ho12⟩
        try replace f3 := SlB.keepNo f3 hcd
        try replace f6 := SlB.keepNo f6 hcd
        try replace f9 := SlB.keepNo f9 hcd
        refine XH_some [0, 12] (by kernel_rfl) rfl hS ?_
        intro i hi; simp only [List.mem_cons, List.not_mem_nil, or_false] at hi; rcases hi with rfl | rfl
        · refine XHop_stepd rfl rfl rfl rfl (m_bsl [.int _ _] Try.underlying28 Try.sizeOf5 Try.zeroValue5 rfl rfl rfl rfl (by simp [Value.oneCell']) ?_)
          intro wa hca hsa hBa
          replace hS := Chg.trans hS hca
          have f3 : SlB wa (.slice (some ⟨_, 0, none⟩) 1 1) [104] := ⟨_, _, rfl, Row.of_at hBa rfl (fun j v h => by simpa [u8s] using h)⟩
          try replace f6 := SlB.keepNo f6 hca
          try replace f9 := SlB.keepNo f9 hca
          try replace f12 := SlB.keepNo f12 hca
          try replace f15 := SlB.keepNo f15 hca
          refine XH_stepd (i := 12) rfl rfl rfl rfl (by kernel_rfl) hS (m_call Try.call101 (eight_ok) rfl ?_)
          rintro _ we ⟨a15, c15, rfl, ho15, hce⟩
          replace hS := Chg.trans hS hce
          have f15 : SlB we (.slice a15 8 c15) (eightB f) := ⟨_, _, by rw [eightB_len], by rw [eightB_len]; exact Row.of_own ho15⟩
          try replace f3 := SlB.keepNo f3 hce
          try replace f6 := SlB.keepNo f6 hce
          try replace f9 := SlB.keepNo f9 hce
          try replace f12 := SlB.keepNo f12 hce
          refine XH_stepd (i := 13) rfl rfl rfl rfl (by kernel_rfl) hS (m_bsl [.slice _ _ _, .slice _ _ _, .slice _ _ _, .slice _ _ _, .slice _ _ _] Try.underlying22 Try.sizeOf28 Try.zeroValue28 rfl rfl rfl rfl (by simp [Value.oneCell']) ?_)
          intro wf hcf hsf hBf
          replace hS := Chg.trans hS hcf
          have hrow := Row.of_cells (l := 5) hBf rfl
          refine XH_stepd (i := 14) rfl rfl rfl rfl (by kernel_rfl) hS (m_call Try.call64 (Concat_ok (bss := headRaw n l p f) hrow rfl (slb_cons (f3.keepNo hcf) (slb_cons (f6.keepNo hcf) (slb_cons (f9.keepNo hcf) (slb_cons (f12.keepNo hcf) (slb_cons (f15.keepNo hcf) slb_nil))))) (by omega) (by rw [headRaw_len]; omega)) rfl ?_)
          rintro _ wg ⟨a17, c17, rfl, ho17, hcg, hn17⟩
          replace hS := Chg.trans hS hcg
          have hge : w.heap.size ≤ wg.heap.size := Nat.le_trans hc1.size (Chg.size hS)
          refine XH_stepd (i := 15) rfl rfl rfl rfl (by kernel_rfl) hS (m_call Try.call100 (sealed_ok (bs := (headRaw n l p f).flatten) (Row.of_own ho17) (by rw [headRaw_len]; omega)) rfl ?_)
          rintro _ wh ⟨⟨a18, c18, rfl, ho18⟩, hch⟩
          replace hS := Chg.trans hS hch
          refine q_as (i := 16) (.slice _ _ _) rfl rfl rfl (by kernel_rfl) rfl (fun _ => ?_) hS
          refine XH_done (by kernel_rfl) hS ?_
          refine thenX_normal ?_
          refine XC_ret rfl ?_
          refine topX_ret ?_
          refine RetV_of (.slice _ _ _) rfl ?_
          exact ⟨OwnB.lower ⟨_, _, rfl, ho18⟩ hge, hc1.trans hS⟩
        · refine XHop_stepd rfl rfl rfl rfl (m_call Try.call101 (eight_ok) rfl ?_)
          rintro _ we ⟨a15, c15, rfl, ho15, hce⟩
          replace hS := Chg.trans hS hce
          have f15 : SlB we (.slice a15 8 c15) (eightB f) := ⟨_, _, by rw [eightB_len], by rw [eightB_len]; exact Row.of_own ho15⟩
          try replace f3 := SlB.keepNo f3 hce
          try replace f6 := SlB.keepNo f6 hce
          try replace f9 := SlB.keepNo f9 hce
          try replace f12 := SlB.keepNo f12 hce
          refine XH_stepd (i := 0) rfl rfl rfl rfl (by kernel_rfl) hS (m_bsl [.int _ _] Try.underlying28 Try.sizeOf5 Try.zeroValue5 rfl rfl rfl rfl (by simp [Value.oneCell']) ?_)
          intro wa hca hsa hBa
          replace hS := Chg.trans hS hca
          have f3 : SlB wa (.slice (some ⟨_, 0, none⟩) 1 1) [104] := ⟨_, _, rfl, Row.of_at hBa rfl (fun j v h => by simpa [u8s] using h)⟩
          try replace f6 := SlB.keepNo f6 hca
          try replace f9 := SlB.keepNo f9 hca
          try replace f12 := SlB.keepNo f12 hca
          try replace f15 := SlB.keepNo f15 hca
          refine XH_stepd (i := 13) rfl rfl rfl rfl (by kernel_rfl) hS (m_bsl [.slice _ _ _, .slice _ _ _, .slice _ _ _, .slice _ _ _, .slice _ _ _] Try.underlying22 Try.sizeOf28 Try.zeroValue28 rfl rfl rfl rfl (by simp [Value.oneCell']) ?_)
          intro wf hcf hsf hBf
          replace hS := Chg.trans hS hcf
          have hrow := Row.of_cells (l := 5) hBf rfl
          refine XH_stepd (i := 14) rfl rfl rfl rfl (by kernel_rfl) hS (m_call Try.call64 (Concat_ok (bss := headRaw n l p f) hrow rfl (slb_cons (f3.keepNo hcf) (slb_cons (f6.keepNo hcf) (slb_cons (f9.keepNo hcf) (slb_cons (f12.keepNo hcf) (slb_cons (f15.keepNo hcf) slb_nil))))) (by omega) (by rw [headRaw_len]; omega)) rfl ?_)
          rintro _ wg ⟨a17, c17, rfl, ho17, hcg, hn17⟩
          replace hS := Chg.trans hS hcg
          have hge : w.heap.size ≤ wg.heap.size := Nat.le_trans hc1.size (Chg.size hS)
          refine XH_stepd (i := 15) rfl rfl rfl rfl (by kernel_rfl) hS (m_call Try.call100 (sealed_ok (bs := (headRaw n l p f).flatten) (Row.of_own ho17) (by rw [headRaw_len]; omega)) rfl ?_)
          rintro _ wh ⟨⟨a18, c18, rfl, ho18⟩, hch⟩
          replace hS := Chg.trans hS hch
          refine q_as (i := 16) (.slice _ _ _) rfl rfl rfl (by kernel_rfl) rfl (fun _ => ?_) hS
          refine XH_done (by kernel_rfl) hS ?_
          refine thenX_normal ?_
          refine XC_ret rfl ?_
          refine topX_ret ?_
          refine RetV_of (.slice _ _ _) rfl ?_
          exact ⟨OwnB.lower ⟨_, _, rfl, ho18⟩ hge, hc1.trans hS⟩
end Go.Proofs.Ytijjnlfmlcbfpaa

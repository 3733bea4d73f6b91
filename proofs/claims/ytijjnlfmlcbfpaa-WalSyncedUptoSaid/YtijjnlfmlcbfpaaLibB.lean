/- Contracts of small functions of Go's library, over this program: slices.IndexFunc and ContainsFunc at 'not of 64 bytes', slices.Repeat, bytes.Equal, slices.Concat. -/
import Derived.Test.YtijjnlfmlcbfpaaLibA
set_option linter.unusedVariables false
set_option maxRecDepth 4000
namespace Go.Proofs.Ytijjnlfmlcbfpaa
open Go

def lenV : Value → Nat | .slice _ l _ => l | _ => 0
def isSl (v : Value) : Prop := ∃ a l c, v = .slice a l c

theorem Of1_ok {w : World} {a : Option Addr} {l c : Nat} (hl : l ≤ 140737488355328) : Ret Try.prog 74 #[.slice a l c] w fun v w' => v = .bool (decide (l ≠ 64)) ∧ w = w' := by
  refine Ret_of_X 6 Try.func74 rfl Try.ntmps74 rfl rfl ?_
  refine XC_seq rfl ?_
  refine XC_region rfl ?_
  refine o_as (.bool _) rfl rfl rfl rfl ?_
  refine XO_end rfl ?_
  refine thenX_normal ?_
  refine XC_seq rfl ?_
  refine XC_region rfl ?_
  refine o_mv (.slice _ _ _) rfl rfl rfl rfl ?_
  refine o_len rfl rfl rfl Try.underlying28 rfl ?_
  refine o_neq rfl rfl rfl rfl rfl ?_
  refine o_as (.bool _) rfl rfl rfl rfl ?_
  refine XO_end rfl ?_
  refine thenX_normal ?_
  refine XC_ret rfl ?_
  refine topX_ret ?_
  refine RetV_of (.bool _) rfl ?_
  exact ⟨by congr 2; apply propext; omega, rfl⟩

theorem all_snoc {xs : List Value} {k : Nat} {P : Value → Prop} {u : Value} (h : ∀ j v, j < k → xs[j]? = some v → P v) (hu : xs[k]? = some u) (hp : P u) : ∀ j v, j < k + 1 → xs[j]? = some v → P v := by
  intro j v hj hv
  rcases Nat.lt_or_ge j k with h1 | h1
  · exact h j v h1 hv
  · obtain rfl : j = k := by omega
    rw [hu] at hv; injection hv with e; subst e; exact hp

theorem IndexFunc_ok {w : World} {a : Option Addr} {L c : Nat} {xs : List Value} (hr : Row w a L xs) (hs : ∀ v ∈ xs, isSl v) (hlen : ∀ v ∈ xs, lenV v ≤ 140737488355328) (hL : L ≤ 140737488355328) :
    Ret Try.prog 106 #[.slice a L c, .func (.func 74) #[] #[]] w fun v w' => ∃ i : Int, v = .int .i64 i ∧ (0 ≤ i ↔ ∃ v ∈ xs, lenV v ≠ 64) ∧ w = w' := by
  refine Ret_of_X 19 Try.func106 rfl Try.ntmps106 rfl rfl ?_
  refine XC_seq rfl ?_
  refine XC_region rfl ?_
  refine o_as (.int _ _) rfl rfl rfl rfl ?_
  refine XO_end rfl ?_
  refine thenX_normal ?_
  refine XC_seq rfl ?_
  refine XC_seq rfl ?_
  refine XC_region rfl ?_
  refine o_mv (.slice _ _ _) rfl rfl rfl rfl ?_
  refine o_len rfl rfl rfl Try.underlying22 rfl ?_
  refine o_mv (.int _ _) rfl rfl rfl rfl ?_
  refine XO_end rfl ?_
  refine thenX_normal ?_
  refine XC_block (id := 0) rfl ?_
  refine XC_loop (fun m l w' => ∃ k : Nat, l = [(0, .slice a L c), (1, .func (.func 74) #[] #[]), (7, .int .i64 (L : Int)), (8, .int .i64 (k : Int))] ∧ k ≤ L ∧ m = L - k ∧ w = w' ∧ ∀ j v, j < k → xs[j]? = some v → lenV v = 64) rfl (L) [(0, .slice a L c), (1, .func (.func 74) #[] #[]), (7, .int .i64 (L : Int)), (8, .int .i64 ((0 : Nat) : Int))] ?_ ?_ ?_
  · exact Agrees.cons rfl (Agrees.cons rfl (Agrees.cons rfl (Agrees.cons rfl (Agrees.nil _))))
  · exact ⟨0, rfl, by omega, rfl, rfl, fun j v h => by omega⟩
  intro m l w' g ⟨k, hl, hk, hm, hw, hall⟩
  subst hl; subst hw
  refine XC_seq rfl ?_
  refine XC_region rfl ?_
  refine o_lss rfl rfl rfl rfl rfl ?_
  refine XO_end rfl ?_
  refine thenX_normal ?_
  refine XC_seq rfl ?_
  refine XC_cond rfl rfl (fun hlt => ?_) (fun hlt => ?_)
  · try simp only [decide_eq_true_eq, decide_eq_false_iff_not, Int.not_lt, Int.not_le, ne_eq, Decidable.not_not, gt_iff_lt, ge_iff_le] at hlt
    have hlt' : k < L := by omega
    obtain ⟨b, o, v, rfl, hv, hc⟩ := hr.at_ hlt'
    obtain ⟨a2, l2, c2, rfl⟩ := hs v (List.mem_of_getElem? hv)
    have h2 := hlen _ (List.mem_of_getElem? hv)
    refine XC_skip rfl ?_
    refine thenX_normal ?_
    refine XC_seq rfl ?_
    refine XC_block (id := 1) rfl ?_
    refine XC_seq rfl ?_
    refine XC_region rfl ?_
    refine o_mv (.int _ _) rfl rfl rfl rfl ?_
    refine o_as (.int _ _) rfl rfl rfl rfl ?_
    refine XO_end rfl ?_
    refine thenX_normal ?_
    refine XC_seq rfl ?_
    refine XC_region rfl ?_
    refine o_mv (.func _ _ _) rfl rfl rfl rfl ?_
    refine o_mv (.slice _ _ _) rfl rfl rfl rfl ?_
    refine o_mv (.int _ _) rfl rfl rfl rfl ?_
    refine o_ia (k) rfl rfl rfl Try.underlying22 Try.sizeOf28 rfl rfl (by first | rfl | omega) (by omega) ?_
    refine o_ld (.slice _ _ _) rfl rfl rfl Try.isAgg28 rfl (hc) ?_
    refine XO_stepd rfl rfl rfl rfl (m_callv rfl Try.call74 (Of1_ok h2) rfl ?_)
    rintro _ _ ⟨rfl, rfl⟩
    refine XO_end rfl ?_
    refine thenX_normal ?_
    refine XC_cond rfl rfl (fun hb => ?_) (fun hb => ?_)
    · try simp only [decide_eq_true_eq, decide_eq_false_iff_not, Int.not_lt, Int.not_le, ne_eq, Decidable.not_not, gt_iff_lt, ge_iff_le] at hb
      refine XC_seq rfl ?_
      refine XC_region rfl ?_
      refine o_mv (.int _ _) rfl rfl rfl rfl ?_
      refine o_as (.int _ _) rfl rfl rfl rfl ?_
      refine XO_end rfl ?_
      refine thenX_normal ?_
      refine XC_ret rfl ?_
      refine inBlockX_ret ?_
      refine thenX_ret ?_
      refine thenX_ret ?_
      refine inBlockX_ret ?_
      refine thenX_ret ?_
      refine topX_ret ?_
      refine RetV_of (.int _ _) rfl ?_
      exact ⟨k, rfl, ⟨fun _ => ⟨_, List.mem_of_getElem? hv, hb⟩, fun _ => by omega⟩, rfl⟩
    · try simp only [decide_eq_true_eq, decide_eq_false_iff_not, Int.not_lt, Int.not_le, ne_eq, Decidable.not_not, gt_iff_lt, ge_iff_le] at hb
      refine XC_skip rfl ?_
      refine inBlockX_normal ?_
      refine thenX_normal ?_
      refine XC_region rfl ?_
      refine o_add _ rfl rfl rfl rfl rfl (in64 (by omega) (by omega)) ?_
      refine o_mv (.int _ _) rfl rfl rfl rfl ?_
      refine XO_end rfl ?_
      refine thenX_normal ?_
      exact ⟨L - (k + 1), [(0, .slice _ L c), (1, .func (.func 74) #[] #[]), (7, .int .i64 (L : Int)), (8, .int .i64 ((k + 1 : Nat) : Int))], by omega, Agrees.cons rfl (Agrees.cons rfl (Agrees.cons rfl (Agrees.cons rfl (Agrees.nil _)))), ⟨k + 1, rfl, by omega, rfl, rfl, all_snoc hall hv hb⟩⟩
  · try simp only [decide_eq_true_eq, decide_eq_false_iff_not, Int.not_lt, Int.not_le, ne_eq, Decidable.not_not, gt_iff_lt, ge_iff_le] at hlt
    refine XC_exit rfl ?_
    refine thenX_exit ?_
    refine thenX_exit ?_
    refine inBlockX_here ?_
    refine thenX_normal ?_
    refine XC_seq rfl ?_
    refine XC_region rfl ?_
    refine o_as (.int _ _) rfl rfl rfl rfl ?_
    refine XO_end rfl ?_
    refine thenX_normal ?_
    refine XC_ret rfl ?_
    refine topX_ret ?_
    refine RetV_of (.int _ _) rfl ?_
    exact ⟨-1, rfl, ⟨fun h => by omega, fun ⟨v, hv, hne⟩ => absurd (by obtain ⟨j, hj, he⟩ := List.getElem_of_mem hv; exact hall j v (by have := hr.1; omega) (by rw [← he]; exact List.getElem?_eq_getElem hj)) hne⟩, rfl⟩

theorem ContainsFunc_ok {w : World} {a : Option Addr} {L c : Nat} {xs : List Value} (hr : Row w a L xs) (hs : ∀ v ∈ xs, isSl v) (hlen : ∀ v ∈ xs, lenV v ≤ 140737488355328) (hL : L ≤ 140737488355328) :
    Ret Try.prog 75 #[.slice a L c, .func (.func 74) #[] #[]] w fun v w' => ∃ b : Bool, v = .bool b ∧ (b = true ↔ ∃ v ∈ xs, lenV v ≠ 64) ∧ w = w' := by
  refine Ret_of_X 9 Try.func75 rfl Try.ntmps75 rfl rfl ?_
  refine XC_seq rfl ?_
  refine XC_region rfl ?_
  refine o_as (.bool _) rfl rfl rfl rfl ?_
  refine XO_end rfl ?_
  refine thenX_normal ?_
  refine XC_seq rfl ?_
  refine XC_region rfl ?_
  refine o_mv (.slice _ _ _) rfl rfl rfl rfl ?_
  refine o_mv (.func _ _ _) rfl rfl rfl rfl ?_
  refine XO_stepd rfl rfl rfl rfl (m_call Try.call106 (IndexFunc_ok hr hs hlen hL) rfl ?_)
  rintro _ _ ⟨i, rfl, hi, rfl⟩
  refine o_geq rfl rfl rfl rfl rfl ?_
  refine o_as (.bool _) rfl rfl rfl rfl ?_
  refine XO_end rfl ?_
  refine thenX_normal ?_
  refine XC_ret rfl ?_
  refine topX_ret ?_
  refine RetV_of (.bool _) rfl ?_
  exact ⟨_, rfl, by simpa using hi, rfl⟩

/-! ## Products of small numbers -/

theorem and32 {x : Int} (h0 : 0 ≤ x) (h1 : x ≤ 4294967295) : bits .and .u64 x 4294967295 = x := by
  obtain ⟨n, rfl⟩ := Int.eq_ofNat_of_zero_le h0
  have h3 : n &&& 4294967295 = n := by
    have := Nat.and_two_pow_sub_one_eq_mod n 32
    simp at this
    rw [this]; omega
  have h4 : n % 18446744073709551616 = n := Nat.mod_eq_of_lt (by omega)
  have key : (BitVec.ofInt 64 (n : Int) &&& BitVec.ofInt 64 4294967295).toNat = n := by
    rw [BitVec.toNat_and]
    simp [BitVec.toNat_ofInt]
    rw [h4]; exact h3
  exact (congrArg (fun m : Nat => IntKind.u64.wrap (m : Int)) key).trans (inu64 (by omega) (by omega))
theorem p32 : (2 : Int) ^ (32 : Int).toNat = 4294967296 := by decide

theorem Mul64_ok {w : World} {a b : Int} (a0 : 0 ≤ a) (a1 : a ≤ 10000) (b0 : 0 ≤ b) (b1 : b ≤ 10000) : Ret Try.prog 126 #[.int .u64 a, .int .u64 b] w fun v w' => v = .tuple #[.int .u64 0, .int .u64 (a * b)] ∧ w = w' := by
  have hab0 : 0 ≤ a * b := Int.mul_nonneg a0 b0
  have hab1 : a * b ≤ 100000000 := by
    have h1 := Int.mul_le_mul a1 b1 b0 (by omega : (0 : Int) ≤ 10000)
    omega
  have z0 : IntKind.u64.wrap 0 = 0 := inu64 (by omega) (by omega)
  have q0 : bits .and .u64 0 4294967295 = 0 := and32 (by omega) (by omega)
  refine Ret_of_X 51 Try.func126 rfl Try.ntmps126 rfl rfl ?_
  refine XC_seq rfl ?_
  refine XC_region rfl ?_
  refine o_as (.int _ _) rfl rfl rfl rfl ?_
  refine o_as (.int _ _) rfl rfl rfl rfl ?_
  refine XO_end rfl ?_
  refine thenX_normal ?_
  refine XC_seq rfl ?_
  refine XC_region rfl ?_
  refine o_mv (.int _ _) rfl rfl rfl rfl ?_
  refine o_and (a) rfl rfl rfl rfl rfl (and32 a0 (by omega)) ?_
  refine o_as (.int _ _) rfl rfl rfl rfl ?_
  refine XO_end rfl ?_
  refine thenX_normal ?_
  refine XC_seq rfl ?_
  refine XC_region rfl ?_
  refine o_mv (.int _ _) rfl rfl rfl rfl ?_
  refine o_shr (0) rfl rfl rfl rfl rfl (by omega) (by simp only [IntKind.bits]; omega) (by rw [p32]; omega) ?_
  refine o_as (.int _ _) rfl rfl rfl rfl ?_
  refine XO_end rfl ?_
  refine thenX_normal ?_
  refine XC_seq rfl ?_
  refine XC_region rfl ?_
  refine o_mv (.int _ _) rfl rfl rfl rfl ?_
  refine o_and (b) rfl rfl rfl rfl rfl (and32 b0 (by omega)) ?_
  refine o_as (.int _ _) rfl rfl rfl rfl ?_
  refine XO_end rfl ?_
  refine thenX_normal ?_
  refine XC_seq rfl ?_
  refine XC_region rfl ?_
  refine o_mv (.int _ _) rfl rfl rfl rfl ?_
  refine o_shr (0) rfl rfl rfl rfl rfl (by omega) (by simp only [IntKind.bits]; omega) (by rw [p32]; omega) ?_
  refine o_as (.int _ _) rfl rfl rfl rfl ?_
  refine XO_end rfl ?_
  refine thenX_normal ?_
  refine XC_seq rfl ?_
  refine XC_region rfl ?_
  refine o_mv (.int _ _) rfl rfl rfl rfl ?_
  refine o_mv (.int _ _) rfl rfl rfl rfl ?_
  refine o_mul (a * b) rfl rfl rfl rfl rfl (inu64 hab0 (by omega)) ?_
  refine o_as (.int _ _) rfl rfl rfl rfl ?_
  refine XO_end rfl ?_
  refine thenX_normal ?_
  refine XC_seq rfl ?_
  refine XC_region rfl ?_
  refine o_mv (.int _ _) rfl rfl rfl rfl ?_
  refine o_mv (.int _ _) rfl rfl rfl rfl ?_
  refine o_mul (0) rfl rfl rfl rfl rfl (by rw [Int.zero_mul]; exact z0) ?_
  refine o_mv (.int _ _) rfl rfl rfl rfl ?_
  refine o_shr (0) rfl rfl rfl rfl rfl (by omega) (by simp only [IntKind.bits]; omega) (by rw [p32]; omega) ?_
  refine o_add (0) rfl rfl rfl rfl rfl z0 ?_
  refine o_as (.int _ _) rfl rfl rfl rfl ?_
  refine XO_end rfl ?_
  refine thenX_normal ?_
  refine XC_seq rfl ?_
  refine XC_region rfl ?_
  refine o_mv (.int _ _) rfl rfl rfl rfl ?_
  refine o_and (0) rfl rfl rfl rfl rfl q0 ?_
  refine o_as (.int _ _) rfl rfl rfl rfl ?_
  refine XO_end rfl ?_
  refine thenX_normal ?_
  refine XC_seq rfl ?_
  refine XC_region rfl ?_
  refine o_mv (.int _ _) rfl rfl rfl rfl ?_
  refine o_shr (0) rfl rfl rfl rfl rfl (by omega) (by simp only [IntKind.bits]; omega) (by rw [p32]; omega) ?_
  refine o_as (.int _ _) rfl rfl rfl rfl ?_
  refine XO_end rfl ?_
  refine thenX_normal ?_
  refine XC_seq rfl ?_
  refine XC_region rfl ?_
  refine o_mv (.int _ _) rfl rfl rfl rfl ?_
  refine o_mv (.int _ _) rfl rfl rfl rfl ?_
  refine o_mv (.int _ _) rfl rfl rfl rfl ?_
  refine o_mul (0) rfl rfl rfl rfl rfl (by rw [Int.mul_zero]; exact z0) ?_
  refine o_add (0) rfl rfl rfl rfl rfl z0 ?_
  refine o_as (.int _ _) rfl rfl rfl rfl ?_
  refine XO_end rfl ?_
  refine thenX_normal ?_
  refine XC_seq rfl ?_
  refine XC_region rfl ?_
  refine o_mv (.int _ _) rfl rfl rfl rfl ?_
  refine o_mv (.int _ _) rfl rfl rfl rfl ?_
  refine o_mul (0) rfl rfl rfl rfl rfl (by rw [Int.mul_zero]; exact z0) ?_
  refine o_mv (.int _ _) rfl rfl rfl rfl ?_
  refine o_add (0) rfl rfl rfl rfl rfl z0 ?_
  refine o_mv (.int _ _) rfl rfl rfl rfl ?_
  refine o_shr (0) rfl rfl rfl rfl rfl (by omega) (by simp only [IntKind.bits]; omega) (by rw [p32]; omega) ?_
  refine o_add (0) rfl rfl rfl rfl rfl z0 ?_
  refine o_as (.int _ _) rfl rfl rfl rfl ?_
  refine XO_end rfl ?_
  refine thenX_normal ?_
  refine XC_seq rfl ?_
  refine XC_region rfl ?_
  refine o_mv (.int _ _) rfl rfl rfl rfl ?_
  refine o_mv (.int _ _) rfl rfl rfl rfl ?_
  refine o_mul (a * b) rfl rfl rfl rfl rfl (inu64 hab0 (by omega)) ?_
  refine o_as (.int _ _) rfl rfl rfl rfl ?_
  refine XO_end rfl ?_
  refine thenX_normal ?_
  refine XC_ret rfl ?_
  refine topX_ret ?_
  refine RetV_of (.tuple #[.int _ _, .int _ _]) rfl ?_
  exact ⟨rfl, rfl⟩
theorem Mul_ok {w : World} {a b : Int} (a0 : 0 ≤ a) (a1 : a ≤ 10000) (b0 : 0 ≤ b) (b1 : b ≤ 10000) : Ret Try.prog 117 #[.int .u64 a, .int .u64 b] w fun v w' => v = .tuple #[.int .u64 0, .int .u64 (a * b)] ∧ w = w' := by
  refine Ret_of_X 30 Try.func117 rfl Try.ntmps117 rfl rfl ?_
  refine XC_seq rfl ?_
  refine XC_region rfl ?_
  refine o_as (.int _ _) rfl rfl rfl rfl ?_
  refine o_as (.int _ _) rfl rfl rfl rfl ?_
  refine XO_end rfl ?_
  refine thenX_normal ?_
  refine XC_seq rfl ?_
  refine XC_cond_false rfl rfl ?_
  refine XC_skip rfl ?_
  refine thenX_normal ?_
  refine XC_seq rfl ?_
  refine XC_region rfl ?_
  refine o_mv (.int _ _) rfl rfl rfl rfl ?_
  refine o_mv (.int _ _) rfl rfl rfl rfl ?_
  refine XO_stepd rfl rfl rfl rfl (m_call Try.call126 (Mul64_ok a0 a1 b0 b1) rfl ?_)
  rintro _ _ ⟨rfl, rfl⟩
  refine o_mv (.tuple _) rfl rfl rfl rfl ?_
  refine o_ext (.int _ _) rfl rfl rfl rfl rfl ?_
  refine o_ext (.int _ _) rfl rfl rfl rfl rfl ?_
  refine o_as (.int _ _) rfl rfl rfl rfl ?_
  refine o_as (.int _ _) rfl rfl rfl rfl ?_
  refine XO_end rfl ?_
  refine thenX_normal ?_
  refine XC_seq rfl ?_
  refine XC_region rfl ?_
  refine o_mv (.int _ _) rfl rfl rfl rfl ?_
  refine o_mv (.int _ _) rfl rfl rfl rfl ?_
  refine o_as (.int _ _) rfl rfl rfl rfl ?_
  refine o_as (.int _ _) rfl rfl rfl rfl ?_
  refine XO_end rfl ?_
  refine thenX_normal ?_
  refine XC_ret rfl ?_
  refine topX_ret ?_
  refine RetV_of (.tuple #[.int _ _, .int _ _]) rfl ?_
  exact ⟨rfl, rfl⟩

theorem Equal_ok {w : World} {a b : Option Addr} {l c m c2 : Nat} {x y : Byt} (hx : Row w a l (u8s x)) (hy : Row w b m (u8s y)) (ox : Okb x) (oy : Okb y) :
    Ret Try.prog 73 #[.slice a l c, .slice b m c2] w fun v w' => v = .bool (decide (x = y)) ∧ w = w' := by
  refine Ret_of_X 10 Try.func73 rfl Try.ntmps73 rfl rfl ?_
  refine XC_seq rfl ?_
  refine XC_region rfl ?_
  refine o_as (.bool _) rfl rfl rfl rfl ?_
  refine XO_end rfl ?_
  refine thenX_normal ?_
  refine XC_seq rfl ?_
  refine XC_region rfl ?_
  refine o_mv (.slice _ _ _) rfl rfl rfl rfl ?_
  refine o_b2s rfl rfl rfl Try.underlying28 Try.underlying5 Try.underlying9 rfl (hx) ?_
  refine o_mv (.slice _ _ _) rfl rfl rfl rfl ?_
  refine o_b2s rfl rfl rfl Try.underlying28 Try.underlying5 Try.underlying9 rfl (hy) ?_
  refine o_eqstr (decide (x = y)) rfl rfl rfl rfl rfl (strOf_eq ox oy) ?_
  refine o_as (.bool _) rfl rfl rfl rfl ?_
  refine XO_end rfl ?_
  refine thenX_normal ?_
  refine XC_ret rfl ?_
  refine topX_ret ?_
  refine RetV_of (.bool _) rfl ?_
  exact ⟨rfl, rfl⟩

theorem own_none {w : World} {base e l c : Nat} {a : Option Addr} {xs : List Value} (h : w.ownsRow base e 1 (.slice a l c) l xs) : w.ownsRow base e 1 (.slice a 0 c) 0 [] := by
  refine ⟨rfl, ?_⟩
  rcases h.2 with ⟨hn, h0⟩ | ⟨g, cap, cur, hv, h1, h2, h3, h4, h5, h6⟩
  · injection hn with e1 e2 e3; subst e1; subst e3; exact .inl ⟨rfl, rfl⟩
  · injection hv with e1 e2 e3; subst e1; subst e3; exact .inr ⟨g, c, cur, rfl, h1, h2, Nat.zero_le _, h4, h5, by simp⟩
/-- slices.Grow of nil. -/
theorem Grow_ok {w : World} {m : Int} {M : Nat} (hm : m = (M : Int)) (hM : M ≤ 140737488355328) :
    Ret Try.prog 102 #[.slice none 0 0, .int .i64 m] w fun v w' => ∃ a' c', v = .slice a' 0 c' ∧ w'.ownsRow w.heap.size 5 1 v 0 [] ∧ Chg No w w' ∧ (a' = none ↔ M = 0) := by
  subst hm
  by_cases h0 : M = 0
  · subst h0
    refine Ret_of_X 27 Try.func102 rfl Try.ntmps102 rfl rfl ?_
    refine XC_seq rfl ?_
    refine XC_region rfl ?_
    refine o_as (.slice _ _ _) rfl rfl rfl rfl ?_
    refine XO_end rfl ?_
    refine thenX_normal ?_
    refine XC_seq rfl ?_
    refine XC_seq rfl ?_
    refine XC_region rfl ?_
    refine o_mv (.int _ _) rfl rfl rfl rfl ?_
    refine o_lss rfl rfl rfl rfl rfl ?_
    refine XO_end rfl ?_
    refine thenX_normal ?_
    refine XC_cond rfl rfl (fun hb => ?_) (fun hb => ?_)
    · exfalso; simp at hb
    refine XC_skip rfl ?_
    refine thenX_normal ?_
    refine XC_seq rfl ?_
    refine XC_seq rfl ?_
    refine XC_region rfl ?_
    refine o_mv (.int _ _) rfl rfl rfl rfl ?_
    refine o_mv (.slice _ _ _) rfl rfl rfl rfl ?_
    refine o_cap rfl rfl rfl Try.underlying28 rfl ?_
    refine o_mv (.slice _ _ _) rfl rfl rfl rfl ?_
    refine o_len rfl rfl rfl Try.underlying28 rfl ?_
    refine o_sub _ rfl rfl rfl rfl rfl (in64 (by omega) (by omega)) ?_
    refine o_sub _ rfl rfl rfl rfl rfl (in64 (by omega) (by omega)) ?_
    refine o_as (.int _ _) rfl rfl rfl rfl ?_
    refine XO_end rfl ?_
    refine thenX_normal ?_
    refine XC_seq rfl ?_
    refine XC_region rfl ?_
    refine o_mv (.int _ _) rfl rfl rfl rfl ?_
    refine o_gtr rfl rfl rfl rfl rfl ?_
    refine XO_end rfl ?_
    refine thenX_normal ?_
    refine XC_cond rfl rfl (fun hb => ?_) (fun hb => ?_)
    · exfalso; simp at hb
    refine XC_skip rfl ?_
    refine thenX_normal ?_
    refine XC_seq rfl ?_
    refine XC_region rfl ?_
    refine o_mv (.slice _ _ _) rfl rfl rfl rfl ?_
    refine o_as (.slice _ _ _) rfl rfl rfl rfl ?_
    refine XO_end rfl ?_
    refine thenX_normal ?_
    refine XC_ret rfl ?_
    refine topX_ret ?_
    refine RetV_of (.slice _ _ _) rfl ?_
    exact ⟨none, 0, rfl, World.ownsRow_nil _ _ _ _, Chg.refl _ _, by simp⟩
  · refine Ret_of_X 27 Try.func102 rfl Try.ntmps102 rfl rfl ?_
    refine XC_seq rfl ?_
    refine XC_region rfl ?_
    refine o_as (.slice _ _ _) rfl rfl rfl rfl ?_
    refine XO_end rfl ?_
    refine thenX_normal ?_
    refine XC_seq rfl ?_
    refine XC_seq rfl ?_
    refine XC_region rfl ?_
    refine o_mv (.int _ _) rfl rfl rfl rfl ?_
    refine o_lss rfl rfl rfl rfl rfl ?_
    refine XO_end rfl ?_
    refine thenX_normal ?_
    refine XC_cond rfl rfl (fun hb => ?_) (fun hb => ?_)
    · exfalso; simp at hb <;> omega
    refine XC_skip rfl ?_
    refine thenX_normal ?_
    refine XC_seq rfl ?_
    refine XC_seq rfl ?_
    refine XC_region rfl ?_
    refine o_mv (.int _ _) rfl rfl rfl rfl ?_
    refine o_mv (.slice _ _ _) rfl rfl rfl rfl ?_
    refine o_cap rfl rfl rfl Try.underlying28 rfl ?_
    refine o_mv (.slice _ _ _) rfl rfl rfl rfl ?_
    refine o_len rfl rfl rfl Try.underlying28 rfl ?_
    refine o_sub _ rfl rfl rfl rfl rfl (in64 (by omega) (by omega)) ?_
    refine o_sub _ rfl rfl rfl rfl rfl (in64 (by omega) (by omega)) ?_
    refine o_as (.int _ _) rfl rfl rfl rfl ?_
    refine XO_end rfl ?_
    refine thenX_normal ?_
    refine XC_seq rfl ?_
    refine XC_region rfl ?_
    refine o_mv (.int _ _) rfl rfl rfl rfl ?_
    refine o_gtr rfl rfl rfl rfl rfl ?_
    refine XO_end rfl ?_
    refine thenX_normal ?_
    refine XC_cond rfl rfl (fun hb => ?_) (fun hb => ?_)
    rotate_left
    · exfalso; simp at hb <;> omega
    refine XC_region rfl ?_
    refine o_mv (.slice _ _ _) rfl rfl rfl rfl ?_
    refine o_mv (.slice _ _ _) rfl rfl rfl rfl ?_
    refine o_cap rfl rfl rfl Try.underlying28 rfl ?_
    refine o_cut (0) (0) (0) rfl rfl rfl Try.underlying28 Try.sizeOf5 rfl (fun _ => rfl) rfl ⟨_, _, rfl, by first | rfl | omega, by omega⟩ rfl ?_
    refine o_mv (.int _ _) rfl rfl rfl rfl ?_
    refine XO_stepd rfl rfl rfl rfl (m_appz (bytes := 1) (M) Try.underlying28 Try.underlying3 Try.typeInfo5 rfl rfl rfl rfl rfl rfl (by first | rfl | omega) (by omega) (by omega) (by omega) ?_)
    intro c' w1 ho hc hs
    have hcap : M ≤ c' := by
      rcases ho.2 with ⟨hn, _⟩ | ⟨g, cap, cur, hv, _, _, hle, _⟩
      · injection hn with hn; cases hn
      · injection hv with _ _ e; omega
    refine o_mv (.slice _ _ _) rfl rfl rfl rfl ?_
    refine o_len rfl rfl rfl Try.underlying28 rfl ?_
    refine o_cut (0) (0) (c') rfl rfl rfl Try.underlying28 Try.sizeOf5 rfl (fun _ => rfl) rfl ⟨_, _, rfl, by first | rfl | omega, by omega⟩ rfl ?_
    refine o_as (.slice _ _ _) rfl rfl rfl rfl ?_
    refine XO_end rfl ?_
    refine thenX_normal ?_
    refine XC_seq rfl ?_
    refine XC_region rfl ?_
    refine o_mv (.slice _ _ _) rfl rfl rfl rfl ?_
    refine o_as (.slice _ _ _) rfl rfl rfl rfl ?_
    refine XO_end rfl ?_
    refine thenX_normal ?_
    refine XC_ret rfl ?_
    refine topX_ret ?_
    refine RetV_of (.slice _ _ _) rfl ?_
    exact ⟨_, _, rfl, by simp only [cutAt_zero]; exact own_none ho, hc, by simp [cutAt_zero, h0]⟩

/-- A value that is a slice of bytes, and reads as bs. -/
def SlB (w : World) (v : Value) (bs : Byt) : Prop := ∃ a c, v = .slice a bs.length c ∧ Row w a bs.length (u8s bs)
theorem SlB.keepNo {w w' : World} {v : Value} {bs : Byt} (h : SlB w v bs) (c : Chg No w w') : SlB w' v bs := let ⟨a, k, e, r⟩ := h; ⟨a, k, e, r.keepNo c⟩

theorem take_flatten {bss : List Byt} {k : Nat} {b : Byt} (h : bss[k]? = some b) : (bss.take (k + 1)).flatten = (bss.take k).flatten ++ b := by
  rw [List.take_add_one, h]; simp
theorem take_flatten_le (bss : List Byt) (k : Nat) : (bss.take k).flatten.length ≤ bss.flatten.length := by
  have h : bss = bss.take k ++ bss.drop k := (List.take_append_drop k bss).symm
  conv => rhs; rw [h]
  rw [List.flatten_append, List.length_append]; omega

theorem Concat_ok {w : World} {a : Option Addr} {L c : Nat} {vs : List Value} {bss : List Byt} (hr : Row w a L vs) (hlen : vs.length = bss.length) (hs : ∀ (j : Nat) (v : Value) (b : Byt), vs[j]? = some v → bss[j]? = some b → SlB w v b)
    (hL : L ≤ 1000000) (hT : bss.flatten.length ≤ 1000000) :
    Ret Try.prog 64 #[.slice a L c] w fun v w' => ∃ a' c', v = .slice a' bss.flatten.length c' ∧ w'.ownsRow w.heap.size 5 1 v bss.flatten.length (u8s bss.flatten) ∧ Chg No w w' ∧ (a' = none ↔ bss.flatten = []) := by
  refine Ret_of_X 36 Try.func64 rfl Try.ntmps64 rfl rfl ?_
  refine XC_seq rfl ?_
  refine XC_region rfl ?_
  refine o_as (.slice _ _ _) rfl rfl rfl rfl ?_
  refine XO_end rfl ?_
  refine thenX_normal ?_
  refine XC_seq rfl ?_
  refine XC_region rfl ?_
  refine o_as (.int _ _) rfl rfl rfl rfl ?_
  refine XO_end rfl ?_
  refine thenX_normal ?_
  refine XC_seq rfl ?_
  refine XC_seq rfl ?_
  refine XC_region rfl ?_
  refine o_mv (.slice _ _ _) rfl rfl rfl rfl ?_
  refine o_len rfl rfl rfl Try.underlying22 rfl ?_
  refine o_mv (.int _ _) rfl rfl rfl rfl ?_
  refine XO_end rfl ?_
  refine thenX_normal ?_
  refine XC_block (id := 0) rfl ?_
  refine XC_loop (fun m l w' => ∃ k : Nat, l = [(0, .slice a L c), (3, .int .i64 (((bss.take k).flatten.length : Nat) : Int)), (9, .slice a L c), (10, .int .i64 (L : Int)), (11, .int .i64 (k : Int))] ∧ k ≤ L ∧ m = L - k ∧ w = w') rfl (L) [(0, .slice a L c), (3, .int .i64 (((bss.take (0 : Nat)).flatten.length : Nat) : Int)), (9, .slice a L c), (10, .int .i64 (L : Int)), (11, .int .i64 ((0 : Nat) : Int))] ?_ ?_ ?_
  · exact Agrees.cons rfl (Agrees.cons rfl (Agrees.cons rfl (Agrees.cons rfl (Agrees.cons rfl (Agrees.nil _)))))
  · exact ⟨0, rfl, by omega, rfl, rfl⟩
  intro m l w' g ⟨k, hl, hk, hm, hw⟩
  subst hl; subst hw
  refine XC_seq rfl ?_
  refine XC_region rfl ?_
  refine o_lss rfl rfl rfl rfl rfl ?_
  refine XO_end rfl ?_
  refine thenX_normal ?_
  refine XC_seq rfl ?_
  refine XC_cond rfl rfl (fun hlt => ?_) (fun hlt => ?_)
  · try simp only [decide_eq_true_eq, decide_eq_false_iff_not, Int.not_lt, Int.not_le, ne_eq, Decidable.not_not, gt_iff_lt, ge_iff_le] at hlt
    have hlt' : k < L := by omega
    obtain ⟨b, o, v, ha, hv, hc⟩ := hr.at_ hlt'
    obtain ⟨bs, hbs⟩ : ∃ bs, bss[k]? = some bs := ⟨_, List.getElem?_eq_getElem (by have := hr.1; omega)⟩
    obtain ⟨a2, c2, rfl, hrow⟩ := hs k v bs hv hbs
    have htf := take_flatten hbs
    have hle := take_flatten_le bss (k + 1)
    rw [htf, List.length_append] at hle
    subst ha
    refine XC_skip rfl ?_
    refine thenX_normal ?_
    refine XC_seq rfl ?_
    refine XC_block (id := 1) rfl ?_
    refine XC_seq rfl ?_
    refine XC_region rfl ?_
    refine o_ia (k) rfl rfl rfl Try.underlying22 Try.sizeOf28 rfl rfl (by first | rfl | omega) (by omega) ?_
    refine o_ld (.slice _ _ _) rfl rfl rfl Try.isAgg28 rfl (hc) ?_
    refine o_as (.slice _ _ _) rfl rfl rfl rfl ?_
    refine XO_end rfl ?_
    refine thenX_normal ?_
    refine XC_seq rfl ?_
    refine XC_region rfl ?_
    refine o_mv (.int _ _) rfl rfl rfl rfl ?_
    refine o_mv (.slice _ _ _) rfl rfl rfl rfl ?_
    refine o_len rfl rfl rfl Try.underlying28 rfl ?_
    refine o_add _ rfl rfl rfl rfl rfl (in64 (by omega) (by omega)) ?_
    refine o_as (.int _ _) rfl rfl rfl rfl ?_
    refine XO_end rfl ?_
    refine thenX_normal ?_
    refine XC_seq rfl ?_
    refine XC_region rfl ?_
    refine o_mv (.int _ _) rfl rfl rfl rfl ?_
    refine o_lss rfl rfl rfl rfl rfl ?_
    refine XO_end rfl ?_
    refine thenX_normal ?_
    refine XC_cond rfl rfl (fun hb => ?_) (fun hb => ?_)
    · exfalso; simp at hb <;> omega
    refine XC_skip rfl ?_
    refine inBlockX_normal ?_
    refine thenX_normal ?_
    refine XC_region rfl ?_
    refine o_add _ rfl rfl rfl rfl rfl (in64 (by omega) (by omega)) ?_
    refine o_mv (.int _ _) rfl rfl rfl rfl ?_
    refine XO_end rfl ?_
    refine thenX_normal ?_
    exact ⟨L - (k + 1), [(0, .slice _ L c), (3, .int .i64 (((bss.take k).flatten.length : Int) + (bs.length : Int))), (9, .slice _ L c), (10, .int .i64 (L : Int)), (11, .int .i64 ((k : Int) + 1))], by omega, Agrees.cons rfl (Agrees.cons rfl (Agrees.cons rfl (Agrees.cons rfl (Agrees.cons rfl (Agrees.nil _))))), ⟨k + 1, by rw [htf, List.length_append]; simp, by omega, rfl, rfl⟩⟩
  · try simp only [decide_eq_true_eq, decide_eq_false_iff_not, Int.not_lt, Int.not_le, ne_eq, Decidable.not_not, gt_iff_lt, ge_iff_le] at hlt
    obtain rfl : k = L := by omega
    have hfull : bss.take k = bss := List.take_of_length_le (by have := hr.1; omega)
    rw [hfull]
    refine XC_exit rfl ?_
    refine thenX_exit ?_
    refine thenX_exit ?_
    refine inBlockX_here ?_
    refine thenX_normal ?_
    refine XC_seq rfl ?_
    refine XC_region rfl ?_
    refine o_mv (.int _ _) rfl rfl rfl rfl ?_
    refine XO_stepd rfl rfl rfl rfl (m_call Try.call102 (Grow_ok (M := bss.flatten.length) rfl (by omega)) rfl ?_)
    rintro _ w1 ⟨a1, c1, rfl, ho1, hc1, hn1⟩
    refine o_as (.slice _ _ _) rfl rfl rfl rfl ?_
    refine XO_end rfl ?_
    refine thenX_normal ?_
    refine XC_seq rfl ?_
    refine XC_seq rfl ?_
    refine XC_region rfl ?_
    refine o_mv (.slice _ _ _) rfl rfl rfl rfl ?_
    refine o_len rfl rfl rfl Try.underlying22 rfl ?_
    refine o_mv (.int _ _) rfl rfl rfl rfl ?_
    refine XO_end rfl ?_
    refine thenX_normal ?_
    refine XC_block (id := 2) rfl ?_
    refine XC_loop (fun m l w' => ∃ (j : Nat) (a6 : Option Addr) (c6 n6 : Nat), l = [(6, .slice a6 n6 c6), (25, .slice a k c), (26, .int .i64 (k : Int)), (27, .int .i64 (j : Int))] ∧ j ≤ k ∧ m = k - j ∧ Chg No w w' ∧ n6 = (bss.take j).flatten.length ∧ w'.ownsRow w.heap.size 5 1 (.slice a6 n6 c6) n6 (u8s (bss.take j).flatten) ∧ (a6 = none ↔ bss.flatten = [])) rfl (k) [(6, .slice a1 0 c1), (25, .slice a k c), (26, .int .i64 (k : Int)), (27, .int .i64 ((0 : Nat) : Int))] ?_ ?_ ?_
    · exact Agrees.cons rfl (Agrees.cons rfl (Agrees.cons rfl (Agrees.cons rfl (Agrees.nil _))))
    · exact ⟨0, a1, c1, 0, rfl, by omega, rfl, hc1, by simp, by simpa [u8s] using ho1, by rw [hn1]; exact ⟨List.eq_nil_of_length_eq_zero, fun h => by rw [h]; rfl⟩⟩
    intro m l w' g ⟨j, a6, c6, n6, hl, hj, hm, hcw, hn6, ho6, hnil⟩
    subst hl
    refine XC_seq rfl ?_
    refine XC_region rfl ?_
    refine o_lss rfl rfl rfl rfl rfl ?_
    refine XO_end rfl ?_
    refine thenX_normal ?_
    refine XC_seq rfl ?_
    refine XC_cond rfl rfl (fun hlt => ?_) (fun hlt => ?_)
    · try simp only [decide_eq_true_eq, decide_eq_false_iff_not, Int.not_lt, Int.not_le, ne_eq, Decidable.not_not, gt_iff_lt, ge_iff_le] at hlt
      have hlt' : j < k := by omega
      obtain ⟨b, o, v, ha, hv, hc⟩ := hr.at_ hlt'
      obtain ⟨bs, hbs⟩ : ∃ bs, bss[j]? = some bs := ⟨_, List.getElem?_eq_getElem (by have := hr.1; omega)⟩
      obtain ⟨a2, c2, rfl, hrow⟩ := hs j v bs hv hbs
      have htf := take_flatten hbs
      have hle := take_flatten_le bss (j + 1)
      have hle' := hle
      rw [htf, List.length_append] at hle
      have hsz := hcw.size
      subst ha
      refine XC_skip rfl ?_
      refine thenX_normal ?_
      refine XC_seq rfl ?_
      refine XC_block (id := 3) rfl ?_
      refine XC_seq rfl ?_
      refine XC_region rfl ?_
      refine o_ia (j) rfl rfl rfl Try.underlying22 Try.sizeOf28 rfl rfl (by first | rfl | omega) (by omega) ?_
      refine o_ld (.slice _ _ _) rfl rfl rfl Try.isAgg28 rfl (cell_keep hcw hc (fun h => h)) ?_
      refine o_as (.slice _ _ _) rfl rfl rfl rfl ?_
      refine XO_end rfl ?_
      refine thenX_normal ?_
      refine XC_region rfl ?_
      refine o_mv (.slice _ _ _) rfl rfl rfl rfl ?_
      refine o_mv (.slice _ _ _) rfl rfl rfl rfl ?_
      refine XO_stepd rfl rfl rfl rfl (m_app (bytes := 1) Try.underlying28 Try.typeInfo5 rfl rfl rfl rfl rfl rfl (ho6) (hrow.keepNo hcw) (u8s_one bs) (by omega) (by omega) (by omega) ?_)
      intro a7 c7 w7 ho7 hc7 hb7 hn7
      refine o_as (.slice _ _ _) rfl rfl rfl rfl ?_
      refine XO_end rfl ?_
      refine inBlockX_normal ?_
      refine thenX_normal ?_
      refine XC_region rfl ?_
      refine o_add _ rfl rfl rfl rfl rfl (in64 (by omega) (by omega)) ?_
      refine o_mv (.int _ _) rfl rfl rfl rfl ?_
      refine XO_end rfl ?_
      refine thenX_normal ?_
      exact ⟨k - (j + 1), [(6, .slice a7 (n6 + bs.length) c7), (25, .slice _ k c), (26, .int .i64 (k : Int)), (27, .int .i64 ((j : Int) + 1))], by omega, Agrees.cons rfl (Agrees.cons rfl (Agrees.cons rfl (Agrees.cons rfl (Agrees.nil _)))), ⟨j + 1, a7, c7, n6 + bs.length, rfl, by omega, rfl, hcw.then hc7 (fun _ _ h => h) (fun i hi hm => by have := own_blk ho6 i hm; omega), by rw [htf, List.length_append, hn6], by rw [htf]; simpa [u8s] using ho7, by rw [hn7, hnil]; exact ⟨fun h => h.1, fun h => ⟨h, by have h2 := congrArg List.length h; simp only [List.length_nil] at h2; omega⟩⟩⟩⟩
    · try simp only [decide_eq_true_eq, decide_eq_false_iff_not, Int.not_lt, Int.not_le, ne_eq, Decidable.not_not, gt_iff_lt, ge_iff_le] at hlt
      obtain rfl : j = k := by omega
      rw [hfull] at hn6 ho6
      refine XC_exit rfl ?_
      refine thenX_exit ?_
      refine thenX_exit ?_
      refine inBlockX_here ?_
      refine thenX_normal ?_
      refine XC_seq rfl ?_
      refine XC_region rfl ?_
      refine o_mv (.slice _ _ _) rfl rfl rfl rfl ?_
      refine o_as (.slice _ _ _) rfl rfl rfl rfl ?_
      refine XO_end rfl ?_
      refine thenX_normal ?_
      refine XC_ret rfl ?_
      refine topX_ret ?_
      refine RetV_of (.slice _ _ _) rfl ?_
      exact ⟨a6, c6, by rw [hn6], by rw [← hn6]; exact ho6, hcw, hnil⟩

end Go.Proofs.Ytijjnlfmlcbfpaa

/- For the law WalAnew: small contracts, and its arguments. -/
import Derived.Test.YtijjnlfmlcbfpaaPlainD
import Derived.Test.YtijjnlfmlcbfpaaSame
set_option linter.unusedVariables false
set_option maxRecDepth 4000
namespace Go.Proofs.Ytijjnlfmlcbfpaa
open Go

theorem WSync_ok {γ : Nat → Nat} {c d : Nat} {w : World} {q p : Nat} {T : WSt} {S : PSt} (h : Log γ c d w q p T S) :
    Ret Try.prog 16 #[.pointer (some ⟨q, 0, none⟩)] w fun v w' => v = .int .i64 0 ∧ ∃ γ', Ext γ γ' (· = c) w w' ∧ Log γ' c d w' q p T S.sync := by
  have hq := h.wa
  refine Ret_of_X 10 Try.func16 rfl Try.ntmps16 rfl rfl ?_
  refine XC_seq rfl ?_
  refine XC_region rfl ?_
  refine o_as (.int _ _) rfl rfl rfl rfl ?_
  refine XO_end rfl ?_
  refine thenX_normal ?_
  refine XC_seq rfl ?_
  refine XC_seq rfl ?_
  refine XC_region rfl ?_
  refine o_mv (.pointer _) rfl rfl rfl rfl ?_
  refine XO_stepd rfl rfl rfl rfl (m_call Try.call56 (none_ok h) rfl ?_)
  rintro _ _ ⟨rfl, rfl⟩
  refine XO_end rfl ?_
  refine thenX_normal ?_
  refine XC_cond_false rfl rfl ?_
  refine XC_skip rfl ?_
  refine thenX_normal ?_
  refine XC_seq rfl ?_
  refine XC_region rfl ?_
  refine o_mv (.pointer _) rfl rfl rfl rfl ?_
  refine o_nilc rfl rfl rfl rfl ?_
  refine o_fa0 0 rfl rfl rfl Try.underlying104 rfl Try.sizeOf24 rfl rfl rfl ?_
  refine o_ldB (.pointer _) rfl rfl rfl Try.isAgg24 rfl (by assumption) rfl ?_
  refine XO_stepd rfl rfl rfl rfl (m_call Try.call62 (Sync_ok h.pl h.c0) rfl ?_)
  rintro _ w1 ⟨rfl, γ1, he1, hp1⟩
  refine o_as (.int _ _) rfl rfl rfl rfl ?_
  refine XO_end rfl ?_
  refine thenX_normal ?_
  refine XC_ret rfl ?_
  refine topX_ret ?_
  refine RetV_of (.int _ _) rfl ?_
  exact ⟨rfl, γ1, he1, h.plate he1 hp1 (sync_len _)⟩

/-- Blocks that are still to come have no colour. -/
noncomputable def norm (γ : Nat → Nat) (w : World) : Nat → Nat := recol γ w.heap.size No 0
theorem norm_ext (γ : Nat → Nat) (C : Nat → Prop) (w : World) : Ext γ (norm γ w) C w w := ⟨Chg.refl _ _, fun _ hk => recol_old hk⟩
theorem norm_new {γ : Nat → Nat} {w : World} {k : Nat} (h : w.heap.size ≤ k) : norm γ w k = 0 := recol_out h id

/-- A call of a log, as an argument holds it. -/
structure DoV where
  op : Int
  torn : Int
  n : Int
  one : Byt
  recs : List Byt
  mask : Int
def DoAt (w : World) (a : Option Addr) (k : Nat) (d : DoV) : Prop := ∃ b o vr vrs, a = some ⟨b, o, none⟩ ∧ (∀ (j : Nat) (v : Value), [.int .i64 d.op, .int .i64 d.torn, .int .i64 d.n, vr, vrs, .int .u64 d.mask][j]? = some v → w.cell? (Addr.add ⟨b, o + k * 6, none⟩ j) = some v) ∧ ArgB w vr d.one ∧
  (∃ a2 L2 c2 vs2, vrs = .slice a2 L2 c2 ∧ Row w a2 L2 vs2 ∧ ArgBs w vs2 d.recs)
def DosAt (w : World) (a : Option Addr) (L : Nat) (ds : List DoV) : Prop := ds.length = L ∧ ∀ k d, ds[k]? = some d → DoAt w a k d
end Go.Proofs.Ytijjnlfmlcbfpaa

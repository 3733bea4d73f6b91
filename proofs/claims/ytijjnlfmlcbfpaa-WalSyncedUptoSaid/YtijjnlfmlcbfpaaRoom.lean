/- The law WalRoom: its walk. -/
import Derived.Test.YtijjnlfmlcbfpaaOpenN
set_option linter.unusedVariables false
set_option maxRecDepth 4000
namespace Go.Proofs.Ytijjnlfmlcbfpaa
open Go

/-- Bytes of an argument. -/
def ArgB (w : World) (v : Value) (bs : Byt) : Prop := ∃ a c, v = .slice a bs.length c ∧ Row w a bs.length (u8s bs) ∧ bs.length ≤ c ∧ Okb bs
def ArgBs (w : World) (vs : List Value) (bss : List Byt) : Prop := vs.length = bss.length ∧ ∀ (j : Nat) (v : Value) (b : Byt), vs[j]? = some v → bss[j]? = some b → ArgB w v b

theorem Append_ok {γ : Nat → Nat} {c d : Nat} {w : World} {q p : Nat} {T : WSt} {S : PSt} (h : Log γ c d w q p T S) {a : Option Addr} {L cp : Nat} {rec : Byt} (hr : RowZ γ w a L (u8s rec)) (hok : Okb rec) (hcp : L ≤ cp) (hL : L ≤ 140737488355328) :
    Ret Try.prog 12 #[.pointer (some ⟨q, 0, none⟩), .slice a L cp] w fun v w' => ∃ (k e : Int) (T' : WSt) (S' : PSt) (γ' : Nat → Nat), v = .tuple #[.int .i64 k, .int .i64 e] ∧ Ext γ γ' (fun k => k = c ∨ k = d) w w' ∧ Log γ' c d w' q p T' S' ∧
      ((¬ (0 < L ∧ L ≤ 2000) ∧ k = 0 ∧ e = 1 ∧ T'.size = T.size ∧ T'.used = T.used ∧ T'.next = T.next ∧ T' = T ∧ S' = S) ∨
       ((0 < L ∧ L ≤ 2000) ∧ (T.size - T.used < needN L ∨ 1152921504606846976 < T.next) ∧ k = 0 ∧ e = 4 ∧ T'.size = T.size ∧ T'.used = T.used ∧ T'.next = T.next ∧ T' = T ∧ S' = S) ∨
       ((0 < L ∧ L ≤ 2000) ∧ needN L ≤ T.size - T.used ∧ T.next ≤ 1152921504606846976 ∧ k = (T.next : Int) ∧ e = 0 ∧ T'.size = T.size ∧ T'.used = T.used + needN L ∧ T'.next = T.next + 1 ∧ T' = { T with used := T.used + needN L, next := T.next + 1 } ∧ S' = putRec T S rec (needN L))) := by
  cases hm : mayN L with
  | false =>
    refine (Append_arg h hm).mono fun v w' ⟨hv, hw⟩ => ?_
    subst hw
    exact ⟨0, 1, T, S, γ, hv, Ext.refl _ _ _, h, .inl ⟨by simpa [mayN] using hm, rfl, rfl, rfl, rfl, rfl, rfl, rfl⟩⟩
  | true =>
    have hL2 : 0 < L ∧ L ≤ 2000 := by simpa [mayN] using hm
    by_cases hf : T.size - T.used < needN L ∨ 1152921504606846976 < T.next
    · refine (Append_full h hm hf).mono fun v w' ⟨hv, hw⟩ => ?_
      exact ⟨0, 4, T, S, γ, hv, Ext.ofNo hw, h.no hw, .inr (.inl ⟨hL2, hf, rfl, rfl, rfl, rfl, rfl, rfl, rfl⟩)⟩
    · refine (Append_put h hr hok hcp hm (by omega) (by omega)).mono fun v w' ⟨hv, γ', he, hlog⟩ => ?_
      exact ⟨_, _, _, _, γ', hv, he, hlog, .inr (.inr ⟨hL2, by omega, by omega, rfl, rfl, rfl, rfl, rfl, rfl, rfl⟩)⟩

def blank (n : Nat) : PSt := { all := List.replicate n noughts, cache := fun _ => none }
theorem blank_get {n i : Nat} (h : i < (blank n).all.length) : (blank n).get i = noughts := by
  have : i < n := by simpa [blank] using h
  simp [blank, PSt.get, List.getD, this]

theorem lawFresh_ok {w : World} {s : Int} :
    Ret Try.prog 10 #[.int .i64 s] w fun v w' => ∃ (q p n : Nat) (γ' : Nat → Nat), v = .tuple #[.pointer (some ⟨q, 0, none⟩), .pointer (some ⟨p, 0, none⟩)] ∧ 8 ≤ n ∧ n ≤ 47 ∧ n = 8 + (IntKind.u64.wrap s % 40).toNat ∧ Ext (fun _ => 0) γ' (fun k => k = 1 ∨ k = 2) w w' ∧ Log γ' 1 2 w' q p (freshW (blank n)) (begun (blank n) 1 1 0 1) := by
  have hu : 0 ≤ IntKind.u64.wrap s ∧ IntKind.u64.wrap s ≤ 18446744073709551615 := by
    simp only [IntKind.wrap, IntKind.bits, IntKind.signed]; simp; omega
  obtain ⟨n, hn⟩ : ∃ n : Nat, n = 8 + (IntKind.u64.wrap s % 40).toNat := ⟨_, rfl⟩
  have hmod : (IntKind.u64.wrap s).tmod 40 = IntKind.u64.wrap s % 40 := Int.tmod_eq_emod_of_nonneg hu.1
  refine Ret_of_X 42 Try.func10 rfl Try.ntmps10 rfl rfl ?_
  refine XC_seq rfl ?_
  refine XC_region rfl ?_
  refine o_as (.pointer _) rfl rfl rfl rfl ?_
  refine o_as (.pointer _) rfl rfl rfl rfl ?_
  refine XO_end rfl ?_
  refine thenX_normal ?_
  refine XC_seq rfl ?_
  refine XC_region rfl ?_
  refine o_mv (.int _ _) rfl rfl rfl rfl ?_
  refine o_cvi (IntKind.u64.wrap s) rfl rfl rfl Try.underlying71 (by rw [Try.underlying3]; rfl) rfl rfl ?_
  refine o_rem (IntKind.u64.wrap s % 40) rfl rfl rfl rfl rfl (by omega) hmod ?_
  refine o_cvi (_) rfl rfl rfl Try.underlying3 (by rw [Try.underlying71]; rfl) rfl (in64 (by omega) (by omega)) ?_
  refine o_add ((n : Int)) rfl rfl rfl rfl rfl (by rw [in64 (by omega) (by omega)]; omega) ?_
  refine XO_stepd rfl rfl rfl rfl (m_call Try.call48 (New_ok (γ := fun _ => 0) (c := 1) (n := n) rfl (by omega) (by omega) (by omega)) rfl ?_)
  rintro _ w1 ⟨p, γ1, rfl, hp1, he1, hpl1⟩
  refine o_mv (.tuple _) rfl rfl rfl rfl ?_
  refine o_ext (.pointer _) rfl rfl rfl rfl rfl ?_
  refine o_ext (.int _ _) rfl rfl rfl rfl rfl ?_
  refine o_as (.pointer _) rfl rfl rfl rfl ?_
  refine o_as (.int _ _) rfl rfl rfl rfl ?_
  refine XO_end rfl ?_
  refine thenX_normal ?_
  refine XC_seq rfl ?_
  refine XC_region rfl ?_
  refine o_mv (.pointer _) rfl rfl rfl rfl ?_
  refine XO_stepd rfl rfl rfl rfl (m_call Try.call18 (Open_new (d := 2) hpl1 (by simp; omega) (fun i hi => blank_get hi) (by omega) (by omega) (by omega)) rfl ?_)
  rintro _ w2 ⟨q, γ2, rfl, hq2, he2, hlog2⟩
  refine o_mv (.tuple _) rfl rfl rfl rfl ?_
  refine o_ext (.pointer _) rfl rfl rfl rfl rfl ?_
  refine o_ext (.slice _ _ _) rfl rfl rfl rfl rfl ?_
  refine o_ext (.int _ _) rfl rfl rfl rfl rfl ?_
  refine o_as (.pointer _) rfl rfl rfl rfl ?_
  refine o_as (.slice _ _ _) rfl rfl rfl rfl ?_
  refine o_as (.int _ _) rfl rfl rfl rfl ?_
  refine XO_end rfl ?_
  refine thenX_normal ?_
  refine XC_seq rfl ?_
  refine XC_seq rfl ?_
  refine XC_region rfl ?_
  refine o_mv (.int _ _) rfl rfl rfl rfl ?_
  refine o_neq rfl rfl rfl rfl rfl ?_
  refine o_mv (.bool _) rfl rfl rfl rfl ?_
  refine o_mv (.int _ _) rfl rfl rfl rfl ?_
  refine o_neq rfl rfl rfl rfl rfl ?_
  refine o_pick0 (.bool _) rfl rfl rfl rfl rfl ?_
  refine o_mv (.bool _) rfl rfl rfl rfl ?_
  refine o_mv (.slice _ _ _) rfl rfl rfl rfl ?_
  refine o_len rfl rfl rfl Try.underlying22 rfl ?_
  refine o_gtr rfl rfl rfl rfl rfl ?_
  refine o_pick0 (.bool _) rfl rfl rfl rfl rfl ?_
  refine o_mv (.bool _) rfl rfl rfl rfl ?_
  refine o_mv (.pointer _) rfl rfl rfl rfl ?_
  refine XO_stepd rfl rfl rfl rfl (m_call Try.call20 (Life_ok hlog2) rfl ?_)
  rintro _ _ ⟨rfl, rfl⟩
  refine o_neq rfl rfl rfl rfl rfl ?_
  refine o_pick0 (.bool _) rfl rfl rfl rfl rfl ?_
  refine XO_end rfl ?_
  refine thenX_normal ?_
  refine XC_cond_false rfl rfl ?_
  refine XC_skip rfl ?_
  refine thenX_normal ?_
  refine XC_seq rfl ?_
  refine XC_region rfl ?_
  refine o_mv (.pointer _) rfl rfl rfl rfl ?_
  refine o_mv (.pointer _) rfl rfl rfl rfl ?_
  refine o_as (.pointer _) rfl rfl rfl rfl ?_
  refine o_as (.pointer _) rfl rfl rfl rfl ?_
  refine XO_end rfl ?_
  refine thenX_normal ?_
  refine XC_ret rfl ?_
  refine topX_ret ?_
  refine RetV_of (.tuple #[.pointer _, .pointer _]) rfl ?_
  exact ⟨q, p, n, γ2, rfl, by omega, by omega, hn, (he1.mono (fun _ x => x.elim)).trans he2, hlog2⟩
end Go.Proofs.Ytijjnlfmlcbfpaa

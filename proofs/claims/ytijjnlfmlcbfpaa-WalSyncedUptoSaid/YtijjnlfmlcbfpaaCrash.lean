/- A plate's crash. -/
import Derived.Test.YtijjnlfmlcbfpaaOpenO
set_option linter.unusedVariables false
set_option maxRecDepth 4000
namespace Go.Proofs.Ytijjnlfmlcbfpaa
open Go

def i64s (ks : List Int) : List Value := ks.map (Value.int .i64)
def crashK (S : PSt) (ks : List Int) : Int → Option Byt := fun k => if k ∈ ks then S.cache k else none
def tornB (S : PSt) (torn n : Int) (b : Byt) : Byt := b.take (min n.toNat 64) ++ (S.all.getD torn.toNat []).drop (min n.toNat 64)
def crashK2 (S : PSt) (ks : List Int) (torn n : Int) : Int → Option Byt := fun k =>
  if k = torn ∧ torn ∉ ks then (S.cache torn).map (tornB S torn n) else crashK S ks k
noncomputable def crashS (S : PSt) (ks : List Int) (torn n : Int) : PSt := ({ all := S.all, cache := crashK2 S ks torn n } : PSt).sync

theorem getD_slice {γ : Nat → Nat} {w : World} {m : IMap} {f : Int → Option Byt} (h : CacheR γ w m f) (k : Int) : ∃ a l c, (mget m k).getD (.slice none 0 0) = .slice a l c := by
  rcases h k with ⟨h1, _⟩ | ⟨u, b, h1, _, a, cp, rfl, _⟩
  · exact ⟨none, 0, 0, by rw [h1]; rfl⟩
  · exact ⟨a, 64, cp, by rw [h1]; rfl⟩

theorem crashK2_range {S : PSt} {N : Nat} {ks : List Int} {torn n : Int} (h : inRange N S.cache) : inRange N (crashK2 S ks torn n) := by
  intro k hk
  unfold crashK2 crashK at hk
  split at hk
  · rename_i hc
    rw [hc.1]
    exact h torn (fun e => hk (by rw [e]; rfl))
  · split at hk
    · exact h k hk
    · exact absurd rfl hk
theorem crashK2_same {S : PSt} {ks : List Int} {torn n : Int} (h : torn ∈ ks ∨ S.cache torn = none) : crashK2 S ks torn n = crashK S ks := by
  funext k
  unfold crashK2 crashK
  by_cases hk : k = torn ∧ torn ∉ ks
  · rw [if_pos hk, hk.1, if_neg hk.2]
    rcases h with h | h
    · exact absurd h hk.2
    · rw [h]; rfl
  · rw [if_neg hk]

theorem Crash_ok {γ : Nat → Nat} {c : Nat} {w : World} {p : Nat} {S : PSt} {a : Option Addr} {L cp : Nat} {ks : List Int} {torn n : Int} (h : PlAt γ c w p S) (hc0 : c ≠ 0) (hr : RowZ γ w a L (i64s ks)) (hL : L ≤ 1000000000) :
    Ret Try.prog 17 #[.pointer (some ⟨p, 0, none⟩), .slice a L cp, .int .i64 torn, .int .i64 n] w fun v w' => v = .int .i64 0 ∧ ∃ γ', Ext γ γ' (· = c) w w' ∧ PlAt γ' c w' p (crashS S ks torn n) := by
  obtain ⟨hl, hrg, b, r, cap, vs, m, hraw, g1, g2, g3, hs, hcr⟩ := h
  have hp := hraw.hp
  have hne := hraw.ne
  have hlt := hraw.lt
  have hkl : ks.length = L := by have := hr.1.1; simpa [i64s] using this
  refine Ret_of_X 98 Try.func17 rfl Try.ntmps17 rfl rfl ?_
  refine XC_seq rfl ?_
  refine XC_region rfl ?_
  refine o_as (.int _ _) rfl rfl rfl rfl ?_
  refine XO_end rfl ?_
  refine thenX_normal ?_
  refine XC_seq rfl ?_
  refine XC_seq rfl ?_
  refine XC_region rfl ?_
  refine o_mv (.pointer _) rfl rfl rfl rfl ?_
  refine XO_stepd rfl rfl rfl rfl (m_call Try.call63 (state_raw hp (by omega)) rfl ?_)
  rintro _ _ ⟨rfl, rfl⟩
  refine o_as (.int _ _) rfl rfl rfl rfl ?_
  refine XO_end rfl ?_
  refine thenX_normal ?_
  refine XC_seq rfl ?_
  refine XC_region rfl ?_
  refine o_mv (.int _ _) rfl rfl rfl rfl ?_
  refine o_neq rfl rfl rfl rfl rfl ?_
  refine XO_end rfl ?_
  refine thenX_normal ?_
  refine XC_cond rfl rfl (fun hb => ?_) (fun hb => ?_)
  · exfalso; simp at hb
  refine XC_skip rfl ?_
  refine thenX_normal ?_
  refine XC_seq rfl ?_
  refine XC_region rfl ?_
  refine o_mv (.pointer _) rfl rfl rfl rfl ?_
  refine o_nilc rfl rfl rfl rfl ?_
  refine o_fa0 1 rfl rfl rfl Try.underlying97 rfl Try.sizeOf95 rfl rfl rfl ?_
  refine o_ldB (.map _) rfl rfl rfl Try.isAgg95 rfl (by assumption) rfl ?_
  refine o_as (.map _) rfl rfl rfl rfl ?_
  refine XO_end rfl ?_
  refine thenX_normal ?_
  refine XC_seq rfl ?_
  refine XC_region rfl ?_
  refine o_mv (.pointer _) rfl rfl rfl rfl ?_
  refine XO_stepd rfl rfl rfl rfl (m_mkm ?_)
  intro w1 hc1 hs1 hB1
  have hp1 := hp.keep hc1 (fun x => x)
  refine o_nilc rfl rfl rfl rfl ?_
  refine o_fa0 1 rfl rfl rfl Try.underlying97 rfl Try.sizeOf95 rfl rfl rfl ?_
  refine XO_stepn rfl rfl rfl (m_st (.map _) Try.sizeOf95 rfl rfl rfl hp1 (by first | decide | (simp; done) | omega | (simp; omega)) ?_)
  intro w2 hc2 hs2 hB2
  refine XO_end rfl ?_
  refine thenX_normal ?_
  have hc02 : Chg (fun k => γ k = c) w w2 := hc1.then hc2 (fun _ _ h => h.elim) (fun k _ e => by rw [e]; exact g1)
  have e2 : Ext γ (recol γ w.heap.size (fun k => k = w.heap.size) c) (· = c) w w2 := Ext.recol hc02
  have hgr : recol γ w.heap.size (fun k => k = w.heap.size) c w.heap.size = c := recol_in (Nat.le_refl _) rfl
  have hg0 : ∀ k, w2.heap.size ≤ k → recol γ w.heap.size (fun k => k = w.heap.size) c k = 0 := fun k hk => recol_out (by omega) (by omega)
  generalize recol γ w.heap.size (fun k => k = w.heap.size) c = γ2 at e2 hgr hg0
  have hp2 : At w2 p (.cells #[.slice (some ⟨b, 0, none⟩) S.all.length cap, .map (some w.heap.size), .int .i64 (S.all.length : Int), .bool false] 97 (0, 0)) := by simpa using hB2
  have hmr : MapAt w2 w.heap.size [] := MapAt.made (hB1.keep hc2 (by show ¬ w.heap.size = p; omega))
  have hm2 := (hraw.hm.keep hc1 (fun x => x)).keep hc2 (fun x => hne.2.1 x.symm)
  have hr2 := hr.ext e2 (fun x => hc0 x.symm)
  have hcr2 := hcr.ext e2 (fun x => hc0 x.symm)
  have hs2' := hs.ext e2 (fun x => hc0 x.symm)
  have hb2 : ∃ cur, At w2 b (.cells cur 28 (0, 0)) ∧ cur.size = cap ∧ S.all.length ≤ cap ∧ cur.toList.take S.all.length = vs := let ⟨cur, h1, h2⟩ := hraw.hb; ⟨cur, (h1.keep hc1 (fun x => x)).keep hc2 (fun x => hne.1 x.symm), h2⟩
  refine XC_seq rfl ?_
  refine XC_seq rfl ?_
  refine XC_region rfl ?_
  refine o_mv (.slice _ _ _) rfl rfl rfl rfl ?_
  refine o_len rfl rfl rfl Try.underlying51 rfl ?_
  refine o_mv (.int _ _) rfl rfl rfl rfl ?_
  refine XO_end rfl ?_
  refine thenX_normal ?_
  refine XC_block (id := 0) rfl ?_
  refine XC_loop (fun mm l w' => ∃ (k : Nat) (m' : IMap), l = [(0, .pointer (some ⟨p, 0, none⟩)), (2, .int .i64 torn), (3, .int .i64 n), (10, .map (some r)), (32, .slice a L cp), (33, .int .i64 (L : Int)), (34, .int .i64 (k : Int))] ∧ k ≤ L ∧ mm = L - k ∧ MapAt w' w.heap.size m' ∧ (∀ j, mget m' j = if j ∈ ks.take k then mget m j else none) ∧ Chg (fun k => k = w.heap.size) w2 w') rfl (L) [(0, .pointer (some ⟨p, 0, none⟩)), (2, .int .i64 torn), (3, .int .i64 n), (10, .map (some r)), (32, .slice a L cp), (33, .int .i64 (L : Int)), (34, .int .i64 ((0 : Nat) : Int))] ?_ ?_ ?_
  · exact Agrees.cons rfl (Agrees.cons rfl (Agrees.cons rfl (Agrees.cons rfl (Agrees.cons rfl (Agrees.cons rfl (Agrees.cons rfl (Agrees.nil _)))))))
  · exact ⟨0, [], rfl, by omega, rfl, hmr, fun j => by simp [mget], Chg.refl _ _⟩
  intro mm l wr g ⟨k, m', hl', hk, hmm, hm', hmg, hcw⟩
  subst hl'
  have er : Ext γ2 γ2 (· = c) w2 wr := ⟨hcw.mono (fun _ _ x => by rw [x]; exact hgr), fun _ _ => rfl⟩
  have hmo := hm2.keep hcw (by show ¬ r = w.heap.size; omega)
  have hpr := hp2.keep hcw (by show ¬ p = w.heap.size; omega)
  refine XC_seq rfl ?_
  refine XC_region rfl ?_
  refine o_lss rfl rfl rfl rfl rfl ?_
  refine XO_end rfl ?_
  refine thenX_normal ?_
  refine XC_seq rfl ?_
  refine XC_cond rfl rfl (fun hlt' => ?_) (fun hlt' => ?_)
  · try simp only [decide_eq_true_eq, decide_eq_false_iff_not, Int.not_lt, Int.not_le, ne_eq, Decidable.not_not, gt_iff_lt, ge_iff_le] at hlt'
    have hk' : k < L := by omega
    obtain ⟨bb, o, v, ha, hv, hc⟩ := (hr2.ext er (fun x => hc0 x.symm)).1.at_ hk'
    obtain ⟨x, hx, rfl⟩ : ∃ x, ks[k]? = some x ∧ v = .int .i64 x := by have h2 := hv; simp only [i64s, List.getElem?_map] at h2; cases hb : ks[k]? with | none => (rw [hb] at h2; cases h2) | some x => (rw [hb] at h2; injection h2 with h2; exact ⟨x, rfl, h2.symm⟩)
    have htk : ∀ j, j ∈ ks.take (k + 1) ↔ j ∈ ks.take k ∨ j = x := fun j => by rw [List.take_add_one, hx]; simp
    obtain ⟨ax, lx, cx, hval⟩ := getD_slice hcr2 x
    subst ha
    refine XC_skip rfl ?_
    refine thenX_normal ?_
    refine XC_seq rfl ?_
    refine XC_block (id := 1) rfl ?_
    refine XC_seq rfl ?_
    refine XC_region rfl ?_
    refine o_ia (k) rfl rfl rfl Try.underlying51 Try.sizeOf3 rfl rfl (by first | rfl | omega) (by omega) ?_
    refine o_ld (.int _ _) rfl rfl rfl Try.isAgg3 rfl (hc) ?_
    refine o_as (.int _ _) rfl rfl rfl rfl ?_
    refine XO_end rfl ?_
    refine thenX_normal ?_
    refine XC_seq rfl ?_
    refine XC_region rfl ?_
    refine o_mv (.map _) rfl rfl rfl rfl ?_
    refine o_mv (.int _ _) rfl rfl rfl rfl ?_
    refine o_lkok (mget m x) rfl rfl rfl Try.underlying95 Try.underlying3 Try.zeroValue28 rfl rfl (hmo) rfl ?_
    rw [hval]
    refine o_mv (.tuple _) rfl rfl rfl rfl ?_
    refine o_ext (.slice _ _ _) rfl rfl rfl rfl rfl ?_
    refine o_ext (.bool _) rfl rfl rfl rfl rfl ?_
    refine o_as (.slice _ _ _) rfl rfl rfl rfl ?_
    refine o_as (.bool _) rfl rfl rfl rfl ?_
    refine XO_end rfl ?_
    refine thenX_normal ?_
    refine XC_seq rfl ?_
    refine XC_region rfl ?_
    refine o_mv (.bool _) rfl rfl rfl rfl ?_
    refine XO_end rfl ?_
    refine thenX_normal ?_
    refine XC_cond rfl rfl (fun hsome => ?_) (fun hsome => ?_)
    · try simp only [decide_eq_true_eq, decide_eq_false_iff_not, Int.not_lt, Int.not_le, ne_eq, Decidable.not_not, gt_iff_lt, ge_iff_le] at hsome
      obtain ⟨u, hu⟩ := Option.isSome_iff_exists.1 hsome
      have hux : u = .slice ax lx cx := by rw [hu] at hval; exact hval
      refine XC_region rfl ?_
      refine o_mv (.pointer _) rfl rfl rfl rfl ?_
      refine o_nilc rfl rfl rfl rfl ?_
      refine o_fa0 1 rfl rfl rfl Try.underlying97 rfl Try.sizeOf95 rfl rfl rfl ?_
      refine o_ldB (.map _) rfl rfl rfl Try.isAgg95 rfl (by assumption) rfl ?_
      refine o_mv (.int _ _) rfl rfl rfl rfl ?_
      refine o_mv (.slice _ _ _) rfl rfl rfl rfl ?_
      refine XO_stepn rfl rfl rfl (m_mup (.slice _ _ _) Try.underlying95 Try.underlying3 rfl rfl rfl (hm') ?_)
      intro w3 hc3 hs3 hm3
      refine XO_end rfl ?_
      refine inBlockX_normal ?_
      refine thenX_normal ?_
      refine XC_region rfl ?_
      refine o_add _ rfl rfl rfl rfl rfl (in64 (by omega) (by omega)) ?_
      refine o_mv (.int _ _) rfl rfl rfl rfl ?_
      refine XO_end rfl ?_
      refine thenX_normal ?_
      exact ⟨L - (k + 1), [(0, .pointer (some ⟨p, 0, none⟩)), (2, .int .i64 torn), (3, .int .i64 n), (10, .map (some r)), (32, .slice _ L cp), (33, .int .i64 (L : Int)), (34, .int .i64 ((k : Int) + 1))], by omega, Agrees.cons rfl (Agrees.cons rfl (Agrees.cons rfl (Agrees.cons rfl (Agrees.cons rfl (Agrees.cons rfl (Agrees.cons rfl (Agrees.nil _))))))), ⟨k + 1, mset m' x (.slice ax lx cx), rfl, by omega, rfl, hm3, fun j => by rw [mget_mset, hmg]; by_cases hj : j = x <;> simp [htk, hj, hu, hux], hcw.trans hc3⟩⟩
    · try simp only [decide_eq_true_eq, decide_eq_false_iff_not, Int.not_lt, Int.not_le, ne_eq, Decidable.not_not, gt_iff_lt, ge_iff_le] at hsome
      refine XC_skip rfl ?_
      refine inBlockX_normal ?_
      refine thenX_normal ?_
      refine XC_region rfl ?_
      refine o_add _ rfl rfl rfl rfl rfl (in64 (by omega) (by omega)) ?_
      refine o_mv (.int _ _) rfl rfl rfl rfl ?_
      refine XO_end rfl ?_
      refine thenX_normal ?_
      exact ⟨L - (k + 1), [(0, .pointer (some ⟨p, 0, none⟩)), (2, .int .i64 torn), (3, .int .i64 n), (10, .map (some r)), (32, .slice _ L cp), (33, .int .i64 (L : Int)), (34, .int .i64 ((k : Int) + 1))], by omega, Agrees.cons rfl (Agrees.cons rfl (Agrees.cons rfl (Agrees.cons rfl (Agrees.cons rfl (Agrees.cons rfl (Agrees.cons rfl (Agrees.nil _))))))), ⟨k + 1, m', rfl, by omega, rfl, hm', fun j => (by rw [hmg]; have hnx : mget m x = none := (by simpa using hsome); by_cases hj : j = x <;> simp [htk, hj, hnx]), hcw⟩⟩
  · try simp only [decide_eq_true_eq, decide_eq_false_iff_not, Int.not_lt, Int.not_le, ne_eq, Decidable.not_not, gt_iff_lt, ge_iff_le] at hlt'
    obtain rfl : k = L := by omega
    rw [List.take_of_length_le (by omega)] at hmg
    have hcro := hcr2.ext er (fun x => hc0 x.symm)
    have hsa := hs2'.ext er (fun x => hc0 x.symm)
    have hbr : ∃ cur, At wr b (.cells cur 28 (0, 0)) ∧ cur.size = cap ∧ S.all.length ≤ cap ∧ cur.toList.take S.all.length = vs := let ⟨cur, h1, h2⟩ := hb2; ⟨cur, h1.keep hcw (by show ¬ b = w.heap.size; omega), h2⟩
    have hcrk : CacheR γ2 wr m' (crashK S ks) := fun j => by
      rw [hmg]; unfold crashK
      by_cases hj : j ∈ ks
      · rw [if_pos hj, if_pos hj]; exact hcro j
      · rw [if_neg hj, if_neg hj]; exact .inl ⟨rfl, rfl⟩
    have hgp : γ2 p = c := (e2.col _ hlt.1).trans g1
    have hgb : γ2 b = c := (e2.col _ hlt.2.1).trans g2
    obtain ⟨a15, l15, c15, hval2⟩ := getD_slice hcrk torn
    obtain ⟨a17, l17, c17, hval3⟩ := getD_slice hcro torn
    refine XC_exit rfl ?_
    refine thenX_exit ?_
    refine thenX_exit ?_
    refine inBlockX_here ?_
    refine thenX_normal ?_
    refine XC_seq rfl ?_
    refine XC_region rfl ?_
    refine o_mv (.pointer _) rfl rfl rfl rfl ?_
    refine o_nilc rfl rfl rfl rfl ?_
    refine o_fa0 1 rfl rfl rfl Try.underlying97 rfl Try.sizeOf95 rfl rfl rfl ?_
    refine o_ldB (.map _) rfl rfl rfl Try.isAgg95 rfl (by assumption) rfl ?_
    refine o_mv (.int _ _) rfl rfl rfl rfl ?_
    refine o_lkok (mget m' torn) rfl rfl rfl Try.underlying95 Try.underlying3 Try.zeroValue28 rfl rfl (hm') rfl ?_
    rw [hval2]
    refine o_mv (.tuple _) rfl rfl rfl rfl ?_
    refine o_ext (.slice _ _ _) rfl rfl rfl rfl rfl ?_
    refine o_ext (.bool _) rfl rfl rfl rfl rfl ?_
    refine o_as (.slice _ _ _) rfl rfl rfl rfl ?_
    refine o_as (.bool _) rfl rfl rfl rfl ?_
    refine XO_end rfl ?_
    refine thenX_normal ?_
    refine XC_seq rfl ?_
    refine XC_seq rfl ?_
    refine XC_region rfl ?_
    refine o_mv (.map _) rfl rfl rfl rfl ?_
    refine o_mv (.int _ _) rfl rfl rfl rfl ?_
    refine o_lkok (mget m torn) rfl rfl rfl Try.underlying95 Try.underlying3 Try.zeroValue28 rfl rfl (hmo) rfl ?_
    rw [hval3]
    refine o_mv (.tuple _) rfl rfl rfl rfl ?_
    refine o_ext (.slice _ _ _) rfl rfl rfl rfl rfl ?_
    refine o_ext (.bool _) rfl rfl rfl rfl rfl ?_
    refine o_as (.slice _ _ _) rfl rfl rfl rfl ?_
    refine o_as (.bool _) rfl rfl rfl rfl ?_
    refine XO_end rfl ?_
    refine thenX_normal ?_
    refine XC_seq rfl ?_
    refine XC_region rfl ?_
    refine o_mv (.bool _) rfl rfl rfl rfl ?_
    refine o_mv (.bool _) rfl rfl rfl rfl ?_
    refine XO_bool 68 rfl (fun hs3 => ?_) (fun hs3 => ?_)
    · try simp only [decide_eq_true_eq, decide_eq_false_iff_not, Int.not_lt, Int.not_le, ne_eq, Decidable.not_not, gt_iff_lt, ge_iff_le] at hs3
      have hlb : ∃ lb, S.cache torn = some lb ∧ SecAt γ2 wr (.slice a17 l17 c17) lb := by
        rcases hcro torn with ⟨h1, _⟩ | ⟨u, lb, h1, h2, h3⟩
        · rw [h1] at hs3; cases hs3
        · refine ⟨lb, h2, ?_⟩
          rw [h1] at hval3
          rw [← hval3]; exact h3
      obtain ⟨lb, hlb, hsecl⟩ := hlb
      refine o_mv (.bool _) rfl rfl rfl rfl ?_
      refine o_not rfl rfl rfl rfl ?_
      refine o_pick1 (.bool _) rfl rfl rfl rfl rfl ?_
      refine XO_end rfl ?_
      refine thenX_normal ?_
      refine XC_cond rfl rfl (fun h71 => ?_) (fun h71 => ?_)
      · try simp only [decide_eq_true_eq, decide_eq_false_iff_not, Int.not_lt, Int.not_le, ne_eq, Decidable.not_not, gt_iff_lt, ge_iff_le] at h71
        have hnk : torn ∉ ks := fun hx => by
          have := hmg torn
          rw [if_pos hx] at this
          rw [this] at h71; rw [hs3] at h71; cases h71
        have htr := hrg torn (by rw [hlb]; exact fun h => by cases h)
        obtain ⟨tn, htn⟩ := Int.eq_ofNat_of_zero_le htr.1
        subst htn
        have htn : tn < S.all.length := by omega
        obtain ⟨_, _, he, hlb64, hc17, hokl, hrowl, hkl'⟩ := hsecl
        injection he with e1 e2' e3; subst e1; subst e2'; subst e3
        have hvl : tn < vs.length := by rw [hsa.1]; exact htn
        obtain ⟨aa, ca, hu, hal64, hca, hoka, hrowa, hka⟩ := hsa.2 tn vs[tn] S.all[tn] (List.getElem?_eq_getElem hvl) (List.getElem?_eq_getElem htn)
        have hrb := (PlRaw.row (w := wr) (p := p) (r := w.heap.size) (m := m') ⟨hpr, hbr, hm'⟩).cell (List.getElem?_eq_getElem hvl)
        rw [hu] at hrb
        refine XC_seq rfl ?_
        refine XC_region rfl ?_
        refine o_mv (.int _ _) rfl rfl rfl rfl ?_
        refine o_max (((n.toNat : Nat) : Int)) rfl rfl rfl rfl rfl (by split <;> omega) ?_
        refine o_min (((min n.toNat 64 : Nat) : Int)) rfl rfl rfl rfl rfl (by split <;> omega) ?_
        generalize hnn : min n.toNat 64 = nn
        have hn64 : nn ≤ 64 := by omega
        refine o_as (.int _ _) rfl rfl rfl rfl ?_
        refine XO_end rfl ?_
        refine thenX_normal ?_
        refine XC_draw (fun w' => At w' p (.cells #[.slice (some ⟨b, 0, none⟩) S.all.length cap, .map (some w.heap.size), .int .i64 (S.all.length : Int), .bool false] 97 (0, 0)) ∧ w'.cell? ⟨b, 0 + tn, none⟩ = some (.slice aa 64 ca)) Trymixed rfl 22 rfl ?_
        intro w3 hN hh3
        have hS := And.intro (hpr.keep hN (fun x => x)) (cell_keep hN hrb (fun x => x))
        refine q_mv (i := 0) (.pointer _) rfl rfl rfl (by kernel_rfl) rfl (fun _ => ?_) hS
        refine q_nilc (i := 1) rfl rfl rfl (by kernel_rfl) rfl (fun _ => ?_) hS
        refine q_fa0 (i := 2) 1 rfl rfl rfl (by kernel_rfl) Try.underlying97 rfl Try.sizeOf95 rfl rfl rfl (fun _ => ?_) hS
        refine q_ld (i := 3) (.map _) rfl rfl rfl (by kernel_rfl) Try.isAgg95 rfl (fun _ h => by rw [h.1.cell]; rfl) (fun _ => ?_) hS
        refine q_mv (i := 4) (.int _ _) rfl rfl rfl (by kernel_rfl) rfl (fun _ => ?_) hS
        refine q_mv (i := 5) (.slice _ _ _) rfl rfl rfl (by kernel_rfl) rfl (fun _ => ?_) hS
        refine q_mv (i := 6) (.int _ _) rfl rfl rfl (by kernel_rfl) rfl (fun _ => ?_) hS
        refine q_mv (i := 7) (.int _ _) rfl rfl rfl (by kernel_rfl) rfl (fun _ => ?_) hS
        refine q_cut (i := 8) (0) (nn) (nn) rfl rfl rfl (by kernel_rfl) Try.underlying28 Try.sizeOf5 rfl (fun h => by cases h) ⟨_, _, rfl, by first | rfl | omega, by omega⟩ ⟨_, _, rfl, by first | rfl | omega, by omega⟩ rfl (fun _ => ?_) hS
        refine q_mv (i := 9) (.pointer _) rfl rfl rfl (by kernel_rfl) rfl (fun _ => ?_) hS
        refine q_nilc (i := 10) rfl rfl rfl (by kernel_rfl) rfl (fun _ => ?_) hS
        refine q_fa0 (i := 11) 0 rfl rfl rfl (by kernel_rfl) Try.underlying97 rfl Try.sizeOf94 rfl rfl rfl (fun _ => ?_) hS
        refine q_fa0 (i := 12) 0 rfl rfl rfl (by kernel_rfl) Try.underlying94 rfl Try.sizeOf22 rfl rfl rfl (fun _ => ?_) hS
        refine q_ld (i := 13) (.slice _ _ _) rfl rfl rfl (by kernel_rfl) Try.isAgg22 rfl (fun _ h => by rw [h.1.cell]; rfl) (fun _ => ?_) hS
        refine q_mv (i := 14) (.int _ _) rfl rfl rfl (by kernel_rfl) rfl (fun _ => ?_) hS
        refine q_ia (i := 15) (tn) rfl rfl rfl (by kernel_rfl) Try.underlying22 Try.sizeOf28 rfl rfl (by first | rfl | omega) (by omega) (fun _ => ?_) hS
        refine q_ld (i := 16) (.slice _ _ _) rfl rfl rfl (by kernel_rfl) Try.isAgg28 rfl (fun _ h => h.2) (fun _ => ?_) hS
        refine q_mv (i := 17) (.int _ _) rfl rfl rfl (by kernel_rfl) rfl (fun _ => ?_) hS
        refine q_cut (i := 18) (nn) (64) (ca) rfl rfl rfl (by kernel_rfl) Try.underlying28 Try.sizeOf5 rfl (fun _ => rfl) rfl rfl ⟨_, _, rfl, by first | rfl | omega, by omega⟩ (fun _ => ?_) hS
        have hr83 := (hrowl.keepNo hN).cut (lo := 0) (hi := nn) (mx := nn) (by omega) (by omega) (by omega)
        have hr93 := (hrowa.keepNo hN).cut (lo := nn) (hi := 64) (mx := ca) (by omega) (by omega) (by omega)
        refine XH_stepd (i := 19) rfl rfl rfl rfl (by kernel_rfl) hS (m_bsl [.slice _ _ _, .slice _ _ _] Try.underlying22 Try.sizeOf28 Try.zeroValue28 rfl rfl rfl rfl (by simp [Value.oneCell']) ?_)
        intro w4 hc4 hs4 hB4
        replace hS := And.intro (hS.1.keep hc4 (fun x => x)) (cell_keep hc4 hS.2 (fun x => x))
        have hrow4 := Row.of_cells (l := 2) hB4 rfl
        have hbl : (lb.take nn).length = nn := by simp; omega
        have hbl2 : (S.all[tn].drop nn).length = 64 - nn := by simp; omega
        have hsb1 : SlB w4 (.slice (cutAt nn 0 a17) (nn - 0) (nn - 0)) (lb.take nn) := ⟨_, _, by rw [hbl]; rfl, by rw [hbl, u8s_take]; have := hr83.keepNo hc4; simpa using this⟩
        have hsb2 : SlB w4 (.slice (cutAt ca nn aa) (64 - nn) (ca - nn)) (S.all[tn].drop nn) := ⟨_, _, by rw [hbl2], by rw [hbl2, u8s_drop]; have := hr93.keepNo hc4; rwa [List.take_of_length_le (by rw [u8s_len]; omega)] at this⟩
        have hfl : ([lb.take nn, S.all[tn].drop nn] : List Byt).flatten = tornB S (tn : Int) n lb := by simp [tornB, hnn, List.getD, List.getElem?_eq_getElem htn]
        have hfl64 : (tornB S (tn : Int) n lb).length = 64 := by rw [← hfl]; simp; omega
        refine XH_stepd (i := 20) rfl rfl rfl rfl (by kernel_rfl) hS (m_call Try.call64 (Concat_ok (bss := [lb.take nn, S.all[tn].drop nn]) hrow4 rfl (slb_cons hsb1 (slb_cons hsb2 slb_nil)) (by omega) (by rw [hfl, hfl64]; omega)) rfl ?_)
        rintro _ w5 ⟨a6, c6, rfl, ho6, hc5, hn6⟩
        rw [hfl, hfl64] at ho6
        rw [hfl, hfl64]
        replace hS := And.intro (hS.1.keep hc5 (fun x => x)) (cell_keep hc5 hS.2 (fun x => x))
        have hc35 := (hN.trans hc4).trans hc5
        refine XH_stepn (i := 21) rfl rfl rfl (by kernel_rfl) hS (m_mup (.slice _ _ _) Try.underlying95 Try.underlying3 rfl rfl rfl (hm'.keep hc35 (fun x => x)) ?_)
        intro w6 hc6 hs6 hm6
        replace hS := And.intro (hS.1.keep hc6 (by show ¬ p = w.heap.size; omega)) (cell_keep hc6 hS.2 (by show ¬ b = w.heap.size; omega))
        have e6 : Ext γ2 γ2 (· = c) wr w6 := ⟨(hc35.mono (fun _ _ x => x.elim)).then hc6 (fun _ _ x => x) (fun _ _ x => by rw [x]; exact hgr), fun _ _ => rfl⟩
        have ho66 := own_keep ho6 hc6 (fun k hk e => by have h1 := own_blk ho6 k (by cases a6 with | none => simp [Value.ownBlock] at hk | some ad => simp [Value.ownBlock] at hk; exact ⟨ad, rfl, hk⟩); have h2 := hN.size; have h3 := hcw.size; omega)
        have hokt : Okb (tornB S (tn : Int) n lb) := by rw [← hfl]; intro x hx; simp at hx; rcases hx with hx | hx; exact hokl x (List.mem_of_mem_take hx); exact hoka x (List.mem_of_mem_drop hx)
        have hpl6 : PlAt γ2 c w6 p { all := S.all, cache := crashK2 S ks (tn : Int) n } := by
          refine ⟨hl, crashK2_range hrg, b, w.heap.size, cap, vs, mset m' (tn : Int) (.slice a6 64 c6), ⟨hS.1, let ⟨cur, h1, h2⟩ := hbr; ⟨cur, (h1.keep hc35 (fun x => x)).keep hc6 (by show ¬ b = w.heap.size; omega), h2⟩, hm6⟩, hgp, hgb, hgr, hsa.ext e6 (fun x => hc0 x.symm), fun k => ?_⟩
          rw [mget_mset]
          by_cases hk : k = (tn : Int)
          · rw [if_pos hk]
            exact .inr ⟨_, tornB S (tn : Int) n lb, rfl, by show crashK2 S ks (tn : Int) n k = _; unfold crashK2; rw [if_pos ⟨hk, hnk⟩, hlb]; rfl, SecAt.of_own_at ho66 hfl64 hokt (fun j hj => hg0 j (by have h1 := (own_blk ho66 j hj).1; have h2 := hN.size; have h3 := hcw.size; omega))⟩
          · rw [if_neg hk]
            have hk2 : crashK2 S ks (tn : Int) n k = crashK S ks k := by unfold crashK2; rw [if_neg (fun x => hk x.1)]
            show (mget m' k = none ∧ crashK2 S ks (tn : Int) n k = none) ∨ ∃ u b, mget m' k = some u ∧ crashK2 S ks (tn : Int) n k = some b ∧ SecAt γ2 w6 u b
            rw [hk2]; exact (hcrk.ext e6 (fun x => hc0 x.symm)) k
        refine XH_done (by kernel_rfl) hS ?_
        refine thenX_normal ?_
        refine XC_seq rfl ?_
        refine XC_region rfl ?_
        refine o_mv (.pointer _) rfl rfl rfl rfl ?_
        refine XO_stepd rfl rfl rfl rfl (m_call Try.call62 (Sync_ok hpl6 hc0) rfl ?_)
        rintro _ w7 ⟨rfl, γ7, he7, hp7⟩
        refine o_as (.int _ _) rfl rfl rfl rfl ?_
        refine XO_end rfl ?_
        refine thenX_normal ?_
        refine XC_ret rfl ?_
        refine topX_ret ?_
        refine RetV_of (.int _ _) rfl ?_
        exact ⟨rfl, γ7, ((e2.trans er).trans e6).trans he7, hp7⟩
      · try simp only [decide_eq_true_eq, decide_eq_false_iff_not, Int.not_lt, Int.not_le, ne_eq, Decidable.not_not, gt_iff_lt, ge_iff_le] at h71
        have hsame : crashK2 S ks torn n = crashK S ks := crashK2_same (.inl (by
          by_cases hx : torn ∈ ks
          · exact hx
          · have := hmg torn; rw [if_neg hx] at this; rw [this] at h71; cases h71))
        have hpl6 : PlAt γ2 c wr p { all := S.all, cache := crashK2 S ks torn n } := ⟨hl, crashK2_range hrg, b, w.heap.size, cap, vs, m', ⟨hpr, hbr, hm'⟩, hgp, hgb, hgr, hsa, by rw [hsame]; exact hcrk⟩
        refine XC_skip rfl ?_
        refine thenX_normal ?_
        refine XC_seq rfl ?_
        refine XC_region rfl ?_
        refine o_mv (.pointer _) rfl rfl rfl rfl ?_
        refine XO_stepd rfl rfl rfl rfl (m_call Try.call62 (Sync_ok hpl6 hc0) rfl ?_)
        rintro _ w7 ⟨rfl, γ7, he7, hp7⟩
        refine o_as (.int _ _) rfl rfl rfl rfl ?_
        refine XO_end rfl ?_
        refine thenX_normal ?_
        refine XC_ret rfl ?_
        refine topX_ret ?_
        refine RetV_of (.int _ _) rfl ?_
        exact ⟨rfl, γ7, (e2.trans er).trans he7, hp7⟩
    · try simp only [decide_eq_true_eq, decide_eq_false_iff_not, Int.not_lt, Int.not_le, ne_eq, Decidable.not_not, gt_iff_lt, ge_iff_le] at hs3
      have hsame : crashK2 S ks torn n = crashK S ks := crashK2_same (.inr (by
        rcases hcro torn with ⟨_, h⟩ | ⟨u, lb, h1, _⟩
        · exact h
        · rw [h1] at hs3; cases hs3))
      have hpl6 : PlAt γ2 c wr p { all := S.all, cache := crashK2 S ks torn n } := ⟨hl, crashK2_range hrg, b, w.heap.size, cap, vs, m', ⟨hpr, hbr, hm'⟩, hgp, hgb, hgr, hsa, by rw [hsame]; exact hcrk⟩
      refine XO_barred rfl rfl rfl rfl ?_
      refine XO_barred rfl rfl rfl rfl ?_
      refine o_pick0 (.bool _) rfl rfl rfl rfl rfl ?_
      refine XO_end rfl ?_
      refine thenX_normal ?_
      refine XC_cond_false rfl rfl ?_
      refine XC_skip rfl ?_
      refine thenX_normal ?_
      refine XC_seq rfl ?_
      refine XC_region rfl ?_
      refine o_mv (.pointer _) rfl rfl rfl rfl ?_
      refine XO_stepd rfl rfl rfl rfl (m_call Try.call62 (Sync_ok hpl6 hc0) rfl ?_)
      rintro _ w7 ⟨rfl, γ7, he7, hp7⟩
      refine o_as (.int _ _) rfl rfl rfl rfl ?_
      refine XO_end rfl ?_
      refine thenX_normal ?_
      refine XC_ret rfl ?_
      refine topX_ret ?_
      refine RetV_of (.int _ _) rfl ?_
      exact ⟨rfl, γ7, (e2.trans er).trans he7, hp7⟩
end Go.Proofs.Ytijjnlfmlcbfpaa

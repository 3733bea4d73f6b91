/- Opening a plate that has a log. -/
import Derived.Test.YtijjnlfmlcbfpaaClean
set_option linter.unusedVariables false
set_option maxRecDepth 4000
namespace Go.Proofs.Ytijjnlfmlcbfpaa
open Go

noncomputable def stepH (T : WSt) (b : Byt) (i : Nat) : WSt := @ite WSt (okHead b i T.size ∧ (T.number : Int) < numAt b 0) (Classical.propDecidable _) { T with number := (numAt b 0).toNat, life := (numAt b 1).toNat, place := (numAt b 2).toNat, first := (numAt b 3).toNat } T
noncomputable def headsT (S : PSt) : Nat → WSt
  | 0 => { size := S.all.length - 2, number := 0, life := 0, place := 0, first := 0, next := 0, used := 0 }
  | k + 1 => stepH (headsT S k) (S.get k) k
theorem headsT_keep (S : PSt) : ∀ k, (headsT S k).size = S.all.length - 2 ∧ (headsT S k).next = 0 ∧ (headsT S k).used = 0
  | 0 => ⟨rfl, rfl, rfl⟩
  | k + 1 => by
    have h := headsT_keep S k
    unfold headsT stepH
    split <;> exact h

def scan (g : Nat → Byt) (size : Nat) : Nat → Nat → Nat → List Byt
  | 0, _, _ => []
  | f + 1, u, n => match recFrom g n u (size - u) u [] with
    | none => []
    | some r => r :: scan g size f (u + needN r.length) (n + 1)
def needs (rs : List Byt) : Nat := (rs.map fun r => needN r.length).sum
theorem needs_snoc (rs : List Byt) (r : Byt) : needs (rs ++ [r]) = needs rs + needN r.length := by simp [needs]

/-- Bytes that nobody writes any more. -/
def TextZ (γ : Nat → Nat) (w : World) (u : Value) (b : Byt) : Prop := ∃ a k, u = .slice a b.length k ∧ RowZ γ w a b.length (u8s b) ∧ b.length ≤ k ∧ Okb b
def TextsZ (γ : Nat → Nat) (w : World) (v : Value) (rs : List Byt) : Prop := ∃ a k vs, v = .slice a rs.length k ∧ RowZ γ w a rs.length vs ∧ vs.length = rs.length ∧ ∀ (j : Nat) (u : Value) (b : Byt), vs[j]? = some u → rs[j]? = some b → TextZ γ w u b
theorem TextZ.ext {γ γ' : Nat → Nat} {C : Nat → Prop} {w w' : World} {u : Value} {b : Byt} (h : TextZ γ w u b) (e : Ext γ γ' C w w') (hc : ¬ C 0) : TextZ γ' w' u b := let ⟨a, k, h1, h2, h3, h4⟩ := h; ⟨a, k, h1, h2.ext e hc, h3, h4⟩
theorem TextsZ.ext {γ γ' : Nat → Nat} {C : Nat → Prop} {w w' : World} {v : Value} {rs : List Byt} (h : TextsZ γ w v rs) (e : Ext γ γ' C w w') (hc : ¬ C 0) : TextsZ γ' w' v rs :=
  let ⟨a, k, vs, h1, h2, h3, h4⟩ := h; ⟨a, k, vs, h1, h2.ext e hc, h3, fun j u b hu hb => (h4 j u b hu hb).ext e hc⟩

theorem own_apart {w : World} {n n' e e' l l' c c' : Nat} {a a' : Option Addr} {xs ys : List Value} (h : w.ownsRow n e 1 (.slice a l c) l xs) (h' : w.ownsRow n' e' 1 (.slice a' l' c') l' ys) (hne : e ≠ e') : ∀ k, isBlk a k → ¬ isBlk a' k := by
  rintro k ⟨ad, rfl, rfl⟩ ⟨ad', rfl, hk⟩
  rcases h.2 with ⟨h0, _⟩ | ⟨g, cap, cur, hv, _, hat, _⟩
  · cases h0
  rcases h'.2 with ⟨h0, _⟩ | ⟨g', cap', cur', hv', _, hat', _⟩
  · cases h0
  injection hv with hv _ _; injection hv with hv; subst hv
  injection hv' with hv' _ _; injection hv' with hv'; subst hv'
  simp at hk; subst hk
  rw [hat] at hat'; injection hat' with hat'; injection hat' with _ e1 _
  exact hne e1

/-- What the reading of records has gathered. -/
def Got (n : Nat) (w : World) (u : Value) (b : Byt) : Prop := ∃ a k, u = .slice (some a) b.length k ∧ w.ownsRow n 5 1 (.slice (some a) b.length k) b.length (u8s b) ∧ Okb b
theorem Got.keep {n : Nat} {M : Nat → Prop} {w w' : World} {u : Value} {b : Byt} (h : Got n w u b) (c : Chg M w w') (hn : ∀ k, n ≤ k → ¬ M k) : Got n w' u b :=
  let ⟨a, k, e, o, x⟩ := h; ⟨a, k, e, own_keep o c (fun j hj => hn j (by have := own_blk o j (by simp [Value.ownBlock] at hj; exact ⟨a, rfl, hj⟩); omega)), x⟩

/-- The reading of a record, with its two ends in one form. -/
theorem record_two {γ : Nat → Nat} {c d : Nat} {w : World} {q p : Nat} {T : WSt} {S : PSt} {st : Nat} (h : Log γ c d w q p T S) (hst : st ≤ T.size) :
    Ret Try.prog 69 #[.pointer (some ⟨q, 0, none⟩), .int .i64 (st : Int)] w fun v w' => ∃ a L k, v = .tuple #[.slice a L k, .int .i64 0] ∧ Chg No w w' ∧
      ((a = none ∧ recFrom (fun i => S.get (secN T i)) T.next st (T.size - st) st [] = none) ∨ ∃ r, recFrom (fun i => S.get (secN T i)) T.next st (T.size - st) st [] = some r ∧ L = r.length ∧ Got w.heap.size w' (.slice a L k) r ∧ 0 < r.length ∧ r.length ≤ 2000) := by
  refine (record_ok h hst).mono fun v w' ⟨hv, hc⟩ => ?_
  cases hr : recFrom (fun i => S.get (secN T i)) T.next st (T.size - st) st [] with
  | none => rw [hr] at hv; exact ⟨none, 0, 0, hv, hc, .inl ⟨rfl, rfl⟩⟩
  | some r =>
    rw [hr] at hv
    obtain ⟨a, k, hv, ho, hok, h0, h1⟩ := hv
    exact ⟨some a, r.length, k, hv, hc, .inr ⟨r, rfl, rfl, ⟨a, k, rfl, ho, hok⟩, h0, h1⟩⟩

theorem recFrom_need {g : Nat → Byt} {n st size : Nat} (hg : ∀ i, i < size → (g i).length = 64) : ∀ (f i : Nat) (acc r : Byt), i + f = size → st ≤ i → acc.length = 40 * (i - st) → recFrom g n st f i acc = some r → st + needN r.length ≤ size ∧ 0 < needN r.length
  | 0, i, acc, r, _, _, _, h => by simp [recFrom] at h
  | f + 1, i, acc, r, hf, hi, hl, h => by
    unfold recFrom at h
    have h64 := hg i (by omega)
    split at h
    · cases h
    rename_i hb
    unfold badCnt at hb
    have hpl := partB_len h64 (by omega)
    split at h
    · cases h
    split at h
    · injection h with h; subst h
      simp only [needN, List.length_append, hpl, hl]
      omega
    · rename_i hl2
      have h40 : cntB (g i) = 40 := by
        have : isLast (g i) = false := by cases hx : isLast (g i) with | false => rfl | true => exact absurd hx hl2
        rw [this] at hb; simp at hb; omega
      exact recFrom_need hg f (i + 1) _ r (by omega) (by omega) (by rw [List.length_append, hpl, hl, h40]; omega) h

theorem PlAt.get64 {γ : Nat → Nat} {c : Nat} {w : World} {p : Nat} {S : PSt} {i : Nat} (h : PlAt γ c w p S) (hi : i < S.all.length) : (S.get i).length = 64 ∧ Okb (S.get i) := by
  obtain ⟨hl, hr, b, r, cap, vs, m, hraw, g1, g2, g3, hs, hcr⟩ := h
  rcases hcr (i : Int) with ⟨hm0, hf0⟩ | ⟨u, bs, hm1, hf1, hsec⟩
  · have hg : S.get i = S.all[i] := by simp [PSt.get, hf0, List.getD, List.getElem?_eq_getElem hi]
    have hvi : i < vs.length := by rw [hs.1]; exact hi
    obtain ⟨a, cp, hu, hl64, hcp, hok, hrow, hk⟩ := hs.2 i vs[i] S.all[i] (List.getElem?_eq_getElem hvi) (List.getElem?_eq_getElem hi)
    rw [hg]; exact ⟨hl64, hok⟩
  · have hg : S.get i = bs := by simp [PSt.get, hf1]
    obtain ⟨a, cp, hu, hl64, hcp, hok, hrow, hk⟩ := hsec
    rw [hg]; exact ⟨hl64, hok⟩
end Go.Proofs.Ytijjnlfmlcbfpaa

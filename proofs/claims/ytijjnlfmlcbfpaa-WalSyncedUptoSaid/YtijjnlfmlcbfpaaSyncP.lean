/- What is told behind a crash of a log whose records were only in part made durable: plain laws. -/
import Derived.Test.YtijjnlfmlcbfpaaPlainD
set_option linter.unusedVariables false
set_option maxRecDepth 4000
namespace Go.Proofs.Ytijjnlfmlcbfpaa
open Go

theorem recFrom_seal {g : Nat → Byt} {n st size i : Nat} {acc : Byt} (h : i < size → (g i).getD 63 0 ≠ 167) : recFrom g n st (size - i) i acc = none := by
  rcases Nat.lt_or_ge i size with hs | hs
  · rw [recFrom_step hs]
    split
    · rfl
    rename_i hb
    rw [if_pos]
    right
    intro he
    have hc : (partB (g i)).length ≤ 40 := by
      unfold badCnt at hb
      unfold partB
      simp; omega
    have := pieceB_end (n := (n : Int)) (part := partB (g i)) (first := decide (i = st)) (last := isLast (g i)) hc
    rw [← he] at this
    exact h hs this
  · rw [show size - i = 0 by omega]; rfl

theorem recFrom_bad {g : Nat → Byt} {n st size j : Nat} {r : Byt} (h2000 : r.length ≤ 2000) (hj : j < needN r.length) (hs : st + needN r.length ≤ size) (hg : ∀ i, i < j → g (st + i) = recPiece n r i) (hb : (g (st + j)).getD 63 0 ≠ 167) :
    ∀ (k i : Nat), i + k = j → recFrom g n st (size - (st + i)) (st + i) (r.take (40 * i)) = none
  | 0, i, hik => by
    obtain rfl : i = j := by omega
    exact recFrom_seal (fun _ => hb)
  | k + 1, i, hik => by
    have hi : i < j := by omega
    have hnd : needN r.length = (r.length + 39) / 40 := rfl
    have hgj := hg i hi
    have hcl : (chunk r i).length = min (40 * i + 40) r.length - 40 * i := chunk_len
    obtain ⟨e1, e2, e3⟩ := piece_parts (n := (n : Int)) (part := chunk r i) (first := decide ((40 * i : Nat) = 0)) (last := decide (min (40 * i + 40) r.length = r.length)) (by omega)
    have hp2 : partB (g (st + i)) = chunk r i := by rw [hgj]; exact e2
    have hp3 : isLast (g (st + i)) = decide (min (40 * i + 40) r.length = r.length) := by rw [hgj]; exact e3
    have hl : ¬ min (40 * i + 40) r.length = r.length := by omega
    have htk : r.take (40 * i) ++ chunk r i = r.take (40 * (i + 1)) := by
      unfold chunk
      rw [Nat.min_eq_left (by omega), show 40 * (i + 1) = 40 * i + 40 by omega, List.take_add, List.drop_left' (by simp; omega)]
    rw [recFrom_step (by omega)]
    split
    · rfl
    split
    · rfl
    rw [if_neg (by rw [hp3]; simpa using hl), hp2, htk]
    exact recFrom_bad h2000 hj hs hg hb k (i + 1) (by omega)

theorem scan_prefix {g g' : Nat → Byt} {size a : Nat} (hgg : ∀ i, i < size → g' i = g i ∨ (a ≤ i ∧ (g' i).getD 63 0 ≠ 167)) : ∀ (rs : List Byt) (f n st : Nat), Laid g n st rs → st + needs rs ≤ size → rs.length < f →
    (st + needs rs < size → (g' (st + needs rs)).getD 63 0 ≠ 167) → ∃ m, m ≤ rs.length ∧ scan g' size f st n = rs.take m ∧ ∀ k, k ≤ rs.length → st + needs (rs.take k) ≤ a → k ≤ m
  | [], f, n, st, _, hs, hf, hn => by
    obtain ⟨f, rfl⟩ : ∃ x, f = x + 1 := ⟨f - 1, by omega⟩
    have e : needs [] = 0 := rfl
    rw [e, Nat.add_zero] at hn
    exact ⟨0, Nat.le_refl _, by unfold scan; rw [recFrom_seal hn]; rfl, fun k hk _ => hk⟩
  | r :: rs, f, n, st, hl, hs, hf, hn => by
    obtain ⟨f, rfl⟩ : ∃ x, f = x + 1 := ⟨f - 1, by simp at hf; omega⟩
    have e : needs (r :: rs) = needN r.length + needs rs := by simp [needs]
    rw [e] at hs hn
    have hpos : 0 < needN r.length := by have := hl.1.1; unfold needN; omega
    by_cases hall : ∀ j, j < needN r.length → g' (st + j) = g (st + j)
    · have hla : LaidAt g' n st r := ⟨hl.1.1, hl.1.2.1, fun j hj => by rw [hall j hj]; exact hl.1.2.2 j hj⟩
      have h1 := recFrom_laid (size := size) hla (by omega) (needN r.length) 0 (by omega) hpos
      simp only [Nat.add_zero, Nat.mul_zero, List.take_zero] at h1
      obtain ⟨m, hm, hsc, hk⟩ := scan_prefix hgg rs f (n + 1) (st + needN r.length) hl.2 (by omega) (by simp at hf; omega) (by rwa [Nat.add_assoc])
      refine ⟨m + 1, by simp; omega, by unfold scan; rw [h1]; simp only; rw [hsc]; rfl, fun k hk1 hk2 => ?_⟩
      cases k with
      | zero => omega
      | succ k =>
        have e2 : needs ((r :: rs).take (k + 1)) = needN r.length + needs (rs.take k) := by simp [needs]
        rw [e2] at hk2
        have := hk k (by simpa using hk1) (by omega)
        omega
    · have hall' : ∃ j, j < needN r.length ∧ ¬ g' (st + j) = g (st + j) := by
        false_or_by_contra
        rename_i hx
        exact hall fun j hj => Decidable.byContradiction fun hne => hx ⟨j, hj, hne⟩
      obtain ⟨j, hj, hmin, hne⟩ : ∃ j, j < needN r.length ∧ (∀ i, i < j → g' (st + i) = g (st + i)) ∧ ¬ g' (st + j) = g (st + j) := by
        have key : ∀ b, (∃ j, j < b ∧ j < needN r.length ∧ ¬ g' (st + j) = g (st + j)) → ∃ j, j < needN r.length ∧ (∀ i, i < j → g' (st + i) = g (st + i)) ∧ ¬ g' (st + j) = g (st + j) := by
          intro b
          induction b with
          | zero => rintro ⟨j, h, _⟩; omega
          | succ b ih =>
            rintro ⟨j, h1, h2, h3⟩
            by_cases hx : ∃ j, j < b ∧ j < needN r.length ∧ ¬ g' (st + j) = g (st + j)
            · exact ih hx
            · exact ⟨j, h2, fun i hi => Decidable.byContradiction fun hne => hx ⟨i, by omega, by omega, hne⟩, h3⟩
        obtain ⟨j, h1, h2⟩ := hall'
        exact key (j + 1) ⟨j, by omega, h1, h2⟩
      have hbad := (hgg (st + j) (by omega)).resolve_left hne
      have h1 := recFrom_bad (g := g') (n := n) (st := st) (size := size) hl.1.2.1 hj (by omega) (fun i hi => by rw [hmin i hi]; exact hl.1.2.2 i (by omega)) hbad.2 j 0 (by omega)
      simp only [Nat.add_zero, Nat.mul_zero, List.take_zero] at h1
      refine ⟨0, by omega, by unfold scan; rw [h1]; rfl, fun k hk1 hk2 => ?_⟩
      cases k with
      | zero => omega
      | succ k =>
        have e2 : needs ((r :: rs).take (k + 1)) = needN r.length + needs (rs.take k) := by simp [needs]
        rw [e2] at hk2
        omega
end Go.Proofs.Ytijjnlfmlcbfpaa

/- What the reading of a log tells: plain laws. -/
import Derived.Test.YtijjnlfmlcbfpaaPlain
set_option linter.unusedVariables false
set_option maxRecDepth 4000
namespace Go.Proofs.Ytijjnlfmlcbfpaa
open Go

/-- A record's sectors lie from a place on. -/
def LaidAt (g : Nat → Byt) (n st : Nat) (r : Byt) : Prop := 0 < r.length ∧ r.length ≤ 2000 ∧ ∀ j, j < needN r.length → g (st + j) = recPiece n r j
def Laid (g : Nat → Byt) : Nat → Nat → List Byt → Prop
  | _, _, [] => True
  | n, st, r :: rs => LaidAt g n st r ∧ Laid g (n + 1) (st + needN r.length) rs

theorem recFrom_laid {g : Nat → Byt} {n st size : Nat} {r : Byt} (h : LaidAt g n st r) (hs : st + needN r.length ≤ size) : ∀ (k j : Nat), j + k = needN r.length → 0 < k → recFrom g n st (size - (st + j)) (st + j) (r.take (40 * j)) = some r
  | 0, j, hjk, h0 => by omega
  | k + 1, j, hjk, _ => by
    obtain ⟨h0, h2000, hg⟩ := h
    have hj : j < needN r.length := by omega
    have hnd : needN r.length = (r.length + 39) / 40 := rfl
    have hgj := hg j hj
    have hcl : (chunk r j).length = min (40 * j + 40) r.length - 40 * j := chunk_len
    obtain ⟨e1, e2, e3⟩ := piece_parts (n := (n : Int)) (part := chunk r j) (first := decide ((40 * j : Nat) = 0)) (last := decide (min (40 * j + 40) r.length = r.length)) (by omega)
    have hp1 : cntB (g (st + j)) = (chunk r j).length := by rw [hgj]; exact e1
    have hp2 : partB (g (st + j)) = chunk r j := by rw [hgj]; exact e2
    have hp3 : isLast (g (st + j)) = decide (min (40 * j + 40) r.length = r.length) := by rw [hgj]; exact e3
    have htk : r.take (40 * j) ++ chunk r j = r.take (40 * (j + 1)) := by
      unfold chunk
      rcases Nat.le_total (40 * j + 40) r.length with hc | hc
      · rw [Nat.min_eq_left hc, show 40 * (j + 1) = 40 * j + 40 by omega, List.take_add, List.drop_left' (by simp; omega)]
      · rw [Nat.min_eq_right hc, List.take_length, List.take_append_drop, List.take_of_length_le (by omega)]
    rw [recFrom_step (by omega), if_neg, if_neg, hp2, hp3, htk]
    · by_cases hl : min (40 * j + 40) r.length = r.length
      · rw [if_pos (decide_eq_true hl), List.take_of_length_le (by omega)]
      · rw [if_neg (by simpa using hl)]
        exact recFrom_laid (g := g) ⟨h0, h2000, hg⟩ hs k (j + 1) (by omega) (by omega)
    · rw [hp2, hp3, htk]
      rintro (hx | hx)
      · simp at hx; omega
      · refine hx ?_
        rw [hgj]; unfold recPiece; congr 1
        rw [decide_eq_decide]; omega
    · unfold badCnt
      rw [hp1, hp3]
      simp only [decide_eq_false_iff_not]
      omega

theorem scan_laid {g : Nat → Byt} {size : Nat} : ∀ (rs : List Byt) (f n st : Nat), Laid g n st rs → st + needs rs ≤ size → rs.length < f → recFrom g (n + rs.length) (st + needs rs) (size - (st + needs rs)) (st + needs rs) [] = none → scan g size f st n = rs
  | [], f, n, st, _, hs, hf, hn => by
    obtain ⟨f, rfl⟩ : ∃ x, f = x + 1 := ⟨f - 1, by omega⟩
    have e : needs [] = 0 := rfl
    simp only [e, List.length_nil, Nat.add_zero] at hn
    unfold scan; rw [hn]
  | r :: rs, f, n, st, hl, hs, hf, hn => by
    obtain ⟨f, rfl⟩ : ∃ x, f = x + 1 := ⟨f - 1, by simp at hf; omega⟩
    have e : needs (r :: rs) = needN r.length + needs rs := by simp [needs]
    rw [e] at hs hn
    have h1 := recFrom_laid (size := size) hl.1 (by omega) (needN r.length) 0 (by omega) (by have := hl.1.1; unfold needN; omega)
    simp only [Nat.add_zero, Nat.mul_zero, List.take_zero] at h1
    unfold scan; rw [h1]
    simp only
    rw [scan_laid rs f (n + 1) (st + needN r.length) hl.2 (by omega) (by simp at hf; omega) (by rw [← Nat.add_assoc] at hn; rw [show n + 1 + rs.length = n + (r :: rs).length by simp; omega]; exact hn)]

theorem Laid.snoc {g : Nat → Byt} : ∀ {rs : List Byt} {r : Byt} {n st : Nat}, Laid g n st rs → LaidAt g (n + rs.length) (st + needs rs) r → Laid g n st (rs ++ [r])
  | [], r, n, st, _, h => ⟨h, trivial⟩
  | x :: rs, r, n, st, h, h2 => by
    refine ⟨h.1, Laid.snoc h.2 ?_⟩
    have e : needs (x :: rs) = needN x.length + needs rs := by simp [needs]
    rw [e, List.length_cons] at h2
    rwa [show n + 1 + rs.length = n + (rs.length + 1) by omega, show st + needN x.length + needs rs = st + (needN x.length + needs rs) by omega]
theorem Laid.congr {g g' : Nat → Byt} : ∀ {rs : List Byt} {n st : Nat}, Laid g n st rs → (∀ i, st ≤ i → i < st + needs rs → g' i = g i) → Laid g' n st rs
  | [], n, st, _, _ => trivial
  | x :: rs, n, st, h, hg => by
    have e : needs (x :: rs) = needN x.length + needs rs := by simp [needs]
    rw [e] at hg
    exact ⟨⟨h.1.1, h.1.2.1, fun j hj => by rw [hg _ (by omega) (by omega)]; exact h.1.2.2 j hj⟩, Laid.congr h.2 (fun i h1 h2 => hg i (by omega) (by omega))⟩

/-- No record begins with a sector whose last byte is not the seal's. -/
theorem recFrom_torn {g : Nat → Byt} {n st size : Nat} (h : st < size → (g st).getD 63 0 ≠ 167) : recFrom g n st (size - st) st [] = none := by
  rcases Nat.lt_or_ge st size with hs | hs
  · rw [recFrom_step hs]
    split
    · rfl
    rename_i hb
    rw [if_pos]
    right
    intro he
    have hc : (partB (g st)).length ≤ 40 := by
      unfold badCnt at hb
      unfold partB
      simp; omega
    have := pieceB_end (n := (n : Int)) (part := partB (g st)) (first := decide (st = st)) (last := isLast (g st)) hc
    rw [← he] at this
    exact h hs this
  · rw [show size - st = 0 by omega]; rfl

/-! ## The plate -/

theorem get_write (S : PSt) (i j : Nat) (b : Byt) : (S.write i b).get j = if j = i then b else S.get j := by
  unfold PSt.get PSt.write
  by_cases h : j = i
  · subst h; simp
  · have : ¬ ((j : Int) = (i : Int)) := by omega
    simp [h, this]
theorem get_sync {S : PSt} {j : Nat} (h : j < S.all.length) : S.sync.get j = S.get j := by
  simp [PSt.get, PSt.sync, List.getD, h]
theorem begun_len (S : PSt) (n l pl f : Nat) : (begun S n l pl f).all.length = S.all.length := by simp [begun, sync_len, write_all]
theorem begun_get {S : PSt} {n l pl f j : Nat} (h : j < S.all.length) : (begun S n l pl f).get j = if j = n % 2 then headB n l pl f else S.get j := by
  unfold begun
  rw [get_sync (by simp [sync_len, write_all]; exact h), get_write]
  split
  · rfl
  · rename_i hj
    rw [get_sync (by simp [write_all]; exact h), get_write, if_neg hj]
theorem begun_cache (S : PSt) (n l pl f : Nat) : (begun S n l pl f).cache = fun _ => none := rfl
theorem putRec_get {T : WSt} {S : PSt} {rec : Byt} {i : Nat} : ∀ k, (putRec T S rec k).get i = if ∃ j, j < k ∧ i = secN T (T.used + j) then (putRec T S rec k).get i else S.get i
  | 0 => by rw [if_neg (by rintro ⟨j, h, _⟩; omega)]; rfl
  | k + 1 => by
    split
    · rfl
    · rename_i h
      show ((putRec T S rec k).write _ _).get i = _
      rw [get_write, if_neg (fun e => h ⟨k, by omega, e⟩), putRec_get k, if_neg (fun ⟨j, h1, h2⟩ => h ⟨j, by omega, h2⟩)]
end Go.Proofs.Ytijjnlfmlcbfpaa

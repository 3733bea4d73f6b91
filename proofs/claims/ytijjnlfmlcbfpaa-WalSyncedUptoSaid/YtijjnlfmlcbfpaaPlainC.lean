/- A log of six sectors that is opened again and again: what holds of its plate. -/
import Derived.Test.YtijjnlfmlcbfpaaPlainB
import Derived.Test.YtijjnlfmlcbfpaaRoom
set_option linter.unusedVariables false
set_option maxRecDepth 4000
namespace Go.Proofs.Ytijjnlfmlcbfpaa
open Go

def TW (N : Nat) (want : List Byt) : WSt := { size := 6, number := N, life := N, place := 0, first := 1, next := 1 + want.length, used := needs want }
structure Near (S : PSt) (N : Nat) (want : List Byt) : Prop where
  len : S.all.length = 8
  clean : S.cache = fun _ => none
  head : S.get (N % 2) = headB N N (0 : Nat) (1 : Nat)
  other : ¬ (okHead (S.get ((N + 1) % 2)) ((N + 1) % 2) 6 ∧ (N : Int) ≤ numAt (S.get ((N + 1) % 2)) 0)
  laid : Laid (fun i => S.get (2 + i)) 1 0 want
  room : needs want ≤ 6
  edge : needs want < 6 → (S.get (2 + needs want)).getD 63 0 ≠ 167
structure Good (S : PSt) (N : Nat) (want : List Byt) : Prop where
  near : Near S N want
  rest : ∀ i, needs want ≤ i → i < 6 → S.get (2 + i) = noughts

theorem secTW {N i : Nat} {want : List Byt} (h : i < 6) : secN (TW N want) i = 2 + i := by unfold secN TW; simp; omega
theorem noughts_end : noughts.getD 63 0 ≠ 167 := by decide

theorem cleanS_get {T : WSt} {S : PSt} {i : Nat} : ∀ k, (cleanS T S k).get i = @ite Byt (∃ j, j < k ∧ i = secN T (T.used + j)) (Classical.propDecidable _) noughts (S.get i)
  | 0 => by rw [if_neg (by rintro ⟨j, h, _⟩; omega)]; rfl
  | k + 1 => by
    have ih := cleanS_get (T := T) (S := S) (i := i) k
    have hs : (cleanS T S (k + 1)).get i = @ite Byt (i = secN T (T.used + k)) (Classical.propDecidable _) noughts ((cleanS T S k).get i) := by
      have hun : cleanS T S (k + 1) = @ite PSt ((cleanS T S k).get (secN T (T.used + k)) = noughts) (Classical.propDecidable _) (cleanS T S k) ((cleanS T S k).write (secN T (T.used + k)) noughts) := rfl
      rw [hun]
      by_cases h : (cleanS T S k).get (secN T (T.used + k)) = noughts
      · rw [if_pos h]
        by_cases h2 : i = secN T (T.used + k)
        · rw [if_pos h2, h2]; exact h
        · rw [if_neg h2]
      · rw [if_neg h, get_write]
        by_cases h2 : i = secN T (T.used + k)
        · rw [if_pos h2, if_pos h2]
        · rw [if_neg h2, if_neg h2]
    rw [hs, ih]
    by_cases h1 : i = secN T (T.used + k)
    · rw [if_pos h1, if_pos ⟨k, by omega, h1⟩]
    · rw [if_neg h1]
      by_cases h2 : ∃ j, j < k ∧ i = secN T (T.used + j)
      · rw [if_pos h2, if_pos (by obtain ⟨j, a, b⟩ := h2; exact ⟨j, by omega, b⟩)]
      · rw [if_neg h2, if_neg]
        rintro ⟨j, a, b⟩
        rcases Nat.lt_or_ge j k with h | h
        · exact h2 ⟨j, h, b⟩
        · exact h1 (by rw [b, show j = k by omega])

theorem good_fresh : Good (begun (blank 8) 1 1 0 1) 1 [] := by
  have hb : ∀ i, i < 8 → (blank 8).get i = noughts := fun i hi => blank_get (by simpa [blank] using hi)
  have hl : (blank 8).all.length = 8 := by simp [blank]
  have hg : ∀ i, 2 + i < 8 → (begun (blank 8) 1 1 0 1).get (2 + i) = noughts := fun i hi => by rw [begun_get (by omega), if_neg (by omega), hb _ hi]
  refine ⟨⟨by rw [begun_len]; exact hl, rfl, by rw [begun_get (by omega)]; rfl, ?_, trivial, by simp [needs], fun _ => ?_⟩, fun i _ hi => hg i (by omega)⟩
  · rw [begun_get (by omega), if_neg (by decide), hb _ (by omega)]
    exact fun h => okHead_noughts h.1
  · rw [hg _ (by simp [needs])]; exact noughts_end

theorem good_put {S : PSt} {N : Nat} {want : List Byt} {rec : Byt} (h : Good S N want) (h0 : 0 < rec.length) (h1 : rec.length ≤ 2000) (hn : needN rec.length ≤ 6 - needs want) : Good (putRec (TW N want) S rec (needN rec.length)).sync N (want ++ [rec]) := by
  have hlen := h.near.len
  have hal : (putRec (TW N want) S rec (needN rec.length)).all.length = 8 := by rw [putRec_all]; exact hlen
  have hpos : 0 < needN rec.length := by unfold needN; omega
  have hroom := h.near.room
  have hnd : needs (want ++ [rec]) = needs want + needN rec.length := needs_snoc _ _
  have hnew : ∀ k j, j < k → k ≤ needN rec.length → (putRec (TW N want) S rec k).get (2 + needs want + j) = recPiece (1 + want.length) rec j := by
    intro k
    induction k with
    | zero => intro j hj; omega
    | succ k ih =>
      intro j hj hk
      show ((putRec (TW N want) S rec k).write (secN (TW N want) (needs want + k)) (recPiece (1 + want.length) rec k)).get _ = _
      rw [secTW (by omega), get_write]
      by_cases hjk : j = k
      · subst hjk; rw [if_pos (by omega)]
      · rw [if_neg (by omega)]; exact ih j (by omega) (by omega)
  have hold : ∀ i, (i < 2 + needs want ∨ 2 + needs want + needN rec.length ≤ i) → (putRec (TW N want) S rec (needN rec.length)).get i = S.get i := by
    intro i hi
    rw [putRec_get, if_neg]
    rintro ⟨j, hj, he⟩
    rw [show (TW N want).used + j = needs want + j from rfl, secTW (by omega)] at he
    omega
  have hs : ∀ i, i < 8 → (putRec (TW N want) S rec (needN rec.length)).sync.get i = (putRec (TW N want) S rec (needN rec.length)).get i := fun i hi => get_sync (by omega)
  have hm := Nat.mod_lt N (show 0 < 2 by omega)
  have hm2 := Nat.mod_lt (N + 1) (show 0 < 2 by omega)
  refine ⟨⟨by rw [sync_len]; exact hal, rfl, by rw [hs _ (by omega), hold _ (by omega)]; exact h.near.head, by rw [hs _ (by omega), hold _ (by omega)]; exact h.near.other, ?_, by omega, fun hlt => ?_⟩, fun i h1 h2 => ?_⟩
  · refine Laid.snoc (h.near.laid.congr fun i _ hi => ?_) ⟨h0, h1, fun j hj => ?_⟩
    · show (putRec (TW N want) S rec (needN rec.length)).sync.get (2 + i) = _
      rw [hs _ (by omega), hold _ (by omega)]
    · show (putRec (TW N want) S rec (needN rec.length)).sync.get (2 + (0 + needs want + j)) = _
      rw [hs _ (by omega), show 2 + (0 + needs want + j) = 2 + needs want + j by omega]
      exact hnew _ j hj (Nat.le_refl _)
  · rw [hnd] at hlt ⊢
    rw [hs _ (by omega), hold _ (by omega), show 2 + (needs want + needN rec.length) = 2 + (needs want + needN rec.length) from rfl, h.rest _ (by omega) (by omega)]
    exact noughts_end
  · rw [hnd] at h1
    rw [hs _ (by omega), hold _ (by omega)]
    exact h.rest i (by omega) h2

theorem crash_get {S : PSt} {torn n : Int} {j : Nat} (h : j < S.all.length) : (crashS S [] torn n).get j = (if (j : Int) = torn then (S.cache torn).map (tornB S torn n) else none).getD (S.all.getD j []) := by
  have e : (crashS S [] torn n).get j = ({ all := S.all, cache := crashK2 S [] torn n } : PSt).get j := get_sync (S := { all := S.all, cache := crashK2 S [] torn n }) h
  rw [e]
  unfold PSt.get crashK2 crashK
  simp only [List.not_mem_nil, not_false_eq_true, and_true, if_false]

theorem near_crash {S S' : PSt} {N : Nat} {want : List Byt} {torn n : Int} (h : Good S N want) (hn : n ≤ 59) (hS : S' = S ∨ ∃ b, needs want < 6 ∧ b.length = 64 ∧ S' = S.write (2 + needs want) b) : Near (crashS S' [] torn n) N want := by
  have hlen := h.near.len
  have hcl := h.near.clean
  have hall : S'.all = S.all := by rcases hS with rfl | ⟨b, _, _, rfl⟩ <;> rfl
  have hg : ∀ j, S.get j = S.all.getD j [] := fun j => by simp [PSt.get, hcl]
  have hsame : ∀ j, j < 8 → j ≠ 2 + needs want → (crashS S' [] torn n).get j = S.get j := by
    intro j hj hne
    rw [crash_get (by rw [hall]; omega), hall, ← hg]
    split
    · rename_i ht
      have : S'.cache torn = none := by
        rcases hS with rfl | ⟨b, _, _, rfl⟩
        · rw [hcl]
        · simp only [PSt.write]
          rw [if_neg (by omega), hcl]
      rw [this]; rfl
    · rfl
  have hm := Nat.mod_lt N (show 0 < 2 by omega)
  have hm2 := Nat.mod_lt (N + 1) (show 0 < 2 by omega)
  have hroom := h.near.room
  refine ⟨by unfold crashS; rw [sync_len]; simp only; rw [hall]; exact hlen, rfl, by rw [hsame _ (by omega) (by omega)]; exact h.near.head, by rw [hsame _ (by omega) (by omega)]; exact h.near.other,
    h.near.laid.congr (fun i _ hi => hsame _ (by omega) (by omega)), hroom, fun hlt => ?_⟩
  rw [crash_get (by rw [hall]; omega), hall, ← hg, h.rest _ (Nat.le_refl _) hlt]
  split
  · rename_i ht
    rcases hS with rfl | ⟨b, _, hb, rfl⟩
    · rw [hcl]; exact noughts_end
    · have hc : (S.write (2 + needs want) b).cache torn = some b := by simp [PSt.write, ht]
      rw [hc]
      show (tornB (S.write (2 + needs want) b) torn n b).getD 63 0 ≠ 167
      have htn : (S.write (2 + needs want) b).all.getD torn.toNat [] = noughts := by
        rw [write_all, ← ht, Int.toNat_natCast, ← hg]; exact h.rest _ (Nat.le_refl _) hlt
      unfold tornB
      have hnn : min n.toNat 64 ≤ 59 := by omega
      generalize min n.toNat 64 = nn at hnn
      rw [htn, List.getD_eq_getElem?_getD, List.getElem?_append_right (by simp; omega)]
      have h0 : ∀ x ∈ noughts.drop nn, x = 0 := fun x hx => List.eq_of_mem_replicate (List.mem_of_mem_drop hx)
      cases hx : (noughts.drop nn)[63 - (b.take nn).length]? with
      | none => simp
      | some x => rw [h0 x (List.mem_of_getElem? hx)]; simp
  · exact noughts_end
end Go.Proofs.Ytijjnlfmlcbfpaa

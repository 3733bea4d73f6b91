/- Opening a log of six sectors again: what holds of its plate. -/
import Derived.Test.YtijjnlfmlcbfpaaPlainC
set_option linter.unusedVariables false
set_option maxRecDepth 4000
namespace Go.Proofs.Ytijjnlfmlcbfpaa
open Go

def T0 (N : Nat) : WSt := { size := 6, number := N, life := N, place := 0, first := 1, next := 0, used := 0 }
theorem step_take {T : WSt} {N : Nat} {b : Byt} {i : Nat} (hs : T.size = 6) (hx : T.next = 0) (hu : T.used = 0) (h0 : 0 < N) (hN : N ≤ 1000000) (hb : b = headB N N (0 : Nat) (1 : Nat)) (hi : i = N % 2) (hlt : T.number < N) : stepH T b i = T0 N := by
  obtain ⟨e0, e1, e2, e3⟩ := headB_num (n := N) (l := N) (p := 0) (f := 1) (by omega) (by omega) (by omega) (by omega)
  unfold stepH
  rw [if_pos ⟨by rw [hb, hi, hs]; exact headB_okHead (by omega) (by omega) (by omega) (by omega) (by omega) h0 h0 (by omega), by rw [hb, e0]; omega⟩, hb, e0, e1, e2, e3]
  obtain ⟨sz, _, _, _, _, nx, us⟩ := T
  simp only at hs hx hu
  subst hs; subst hx; subst hu
  simp [T0]

theorem near_heads {S : PSt} {N : Nat} {want : List Byt} (h : Near S N want) (h0 : 0 < N) (hN : N ≤ 1000000) : headsT S 2 = T0 N := by
  have hl := h.len
  have k0 := headsT_keep S 0
  have k1 := headsT_keep S 1
  rw [hl] at k0 k1
  show stepH (headsT S 1) (S.get 1) 1 = _
  rcases Nat.mod_two_eq_zero_or_one N with hm | hm
  · have hh := h.head
    have ho := h.other
    rw [hm] at hh
    rw [show (N + 1) % 2 = 1 by omega] at ho
    have e1 : headsT S 1 = T0 N := step_take (i := 0) k0.1 k0.2.1 k0.2.2 h0 hN hh hm.symm (by show (0 : Nat) < N; exact h0)
    rw [e1]
    unfold stepH
    rw [if_neg]
    rintro ⟨x1, x2⟩
    have x2' : (N : Int) < numAt (S.get 1) 0 := x2
    exact ho ⟨x1, by omega⟩
  · have hh := h.head
    have ho := h.other
    rw [hm] at hh
    rw [show (N + 1) % 2 = 0 by omega] at ho
    refine step_take k1.1 k1.2.1 k1.2.2 h0 hN hh hm.symm ?_
    show (stepH (headsT S 0) (S.get 0) 0).number < N
    unfold stepH
    split
    · rename_i hc
      have hc1 : okHead (S.get 0) 0 6 := by have := hc.1; rw [k0.1] at this; exact this
      have : ¬ (N : Int) ≤ numAt (S.get 0) 0 := fun x => ho ⟨hc1, x⟩
      have h2 := hc1.2.1
      show (numAt (S.get 0) 0).toNat < N
      omega
    · exact h0

theorem secT0 {N i : Nat} (h : i < 6) : secN (T0 N) i = 2 + i := by unfold secN T0; simp; omega
theorem laid_len {g : Nat → Byt} : ∀ {rs : List Byt} {n st : Nat}, Laid g n st rs → rs.length ≤ needs rs
  | [], _, _, _ => Nat.le_refl _
  | r :: rs, n, st, h => by
    have h1 := laid_len h.2
    have h2 := h.1.1
    have e : needs (r :: rs) = needN r.length + needs rs := by simp [needs]
    have e2 : 0 < needN r.length := by unfold needN; omega
    rw [e, List.length_cons]; omega

theorem near_scan {S : PSt} {N : Nat} {want : List Byt} (h : Near S N want) : scanS S (T0 N) = want := by
  have hroom := h.room
  have hll := laid_len h.laid
  have hl : Laid (fun i => S.get (secN (T0 N) i)) 1 0 want := h.laid.congr (fun i _ hi => by show S.get (secN (T0 N) i) = S.get (2 + i); rw [secT0 (by omega)])
  refine scan_laid want _ _ _ hl (by show 0 + needs want ≤ 6; omega) (by show want.length < 6 + 1; omega) (recFrom_torn fun hlt => ?_)
  have hlt' : 0 + needs want < 6 := hlt
  show (S.get (secN (T0 N) (0 + needs want))).getD 63 0 ≠ 167
  rw [secT0 hlt', Nat.zero_add]
  exact h.edge (by omega)

theorem near_open {S : PSt} {N : Nat} {want : List Byt} (h : Near S N want) (h0 : 0 < N) (hN : N ≤ 1000000) : Good (begun (cleaned S (T0 N) want) (N + 1) (N + 1) 0 1) (N + 1) want := by
  have hroom := h.room
  have hlen := h.len
  have hcl : (cleaned S (T0 N) want).all.length = 8 := by unfold cleaned; rw [sync_len, cleanS_all]; exact hlen
  have hsec : ∀ j, j < 6 - needs want → secN (readW (T0 N) want) ((readW (T0 N) want).used + j) = 2 + (needs want + j) := fun j hj => by
    show secN (T0 N) (needs want + j) = _
    exact secT0 (by omega)
  have hg : ∀ i, i < 8 → (cleaned S (T0 N) want).get i = if 2 + needs want ≤ i then noughts else S.get i := by
    intro i hi
    unfold cleaned
    rw [get_sync (by rw [cleanS_all]; omega), cleanS_get]
    by_cases hc : 2 + needs want ≤ i
    · rw [if_pos hc, if_pos]
      exact ⟨i - 2 - needs want, by show i - 2 - needs want < 6 - needs want; omega, by rw [hsec _ (by omega)]; omega⟩
    · rw [if_neg hc, if_neg]
      rintro ⟨j, hj, he⟩
      have hj' : j < 6 - needs want := hj
      rw [hsec j hj'] at he
      omega
  have hm := Nat.mod_lt (N + 1) (show 0 < 2 by omega)
  have hm2 := Nat.mod_lt (N + 1 + 1) (show 0 < 2 by omega)
  have hb : ∀ i, i < 8 → (begun (cleaned S (T0 N) want) (N + 1) (N + 1) 0 1).get i = if i = (N + 1) % 2 then headB ((N + 1 : Nat) : Int) ((N + 1 : Nat) : Int) (0 : Nat) (1 : Nat) else (if 2 + needs want ≤ i then noughts else S.get i) := fun i hi => by
    rw [begun_get (by omega), hg i hi]
  refine ⟨⟨by rw [begun_len]; exact hcl, rfl, by rw [hb _ (by omega), if_pos rfl], ?_, ?_, hroom, fun hlt => ?_⟩, fun i h1 h2 => ?_⟩
  · rw [hb _ (by omega), if_neg (by omega), if_neg (by omega), show (N + 1 + 1) % 2 = N % 2 by omega, h.head]
    rintro ⟨_, x⟩
    rw [(headB_num (n := N) (l := N) (p := 0) (f := 1) (by omega) (by omega) (by omega) (by omega)).1] at x
    omega
  · exact h.laid.congr fun i _ hi => by
      show (begun (cleaned S (T0 N) want) (N + 1) (N + 1) 0 1).get (2 + i) = S.get (2 + i)
      rw [hb _ (by omega), if_neg (by omega), if_neg (by omega)]
  · rw [hb _ (by omega), if_neg (by omega), if_pos (Nat.le_refl _)]; exact noughts_end
  · rw [hb _ (by omega), if_neg (by omega), if_pos (by omega)]
end Go.Proofs.Ytijjnlfmlcbfpaa

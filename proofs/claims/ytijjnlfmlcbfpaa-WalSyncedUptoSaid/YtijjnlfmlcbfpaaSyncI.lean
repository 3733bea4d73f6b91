/- A log on a new plate, of which a part was made durable: what is told behind a crash. -/
import Derived.Test.YtijjnlfmlcbfpaaSyncP
set_option linter.unusedVariables false
set_option maxRecDepth 4000
namespace Go.Proofs.Ytijjnlfmlcbfpaa
open Go

def TF (sz : Nat) (done : List Byt) : WSt := { size := sz, number := 1, life := 1, place := 0, first := 1, next := 1 + done.length, used := needs done }
def TH (sz : Nat) : WSt := { size := sz, number := 1, life := 1, place := 0, first := 1, next := 0, used := 0 }
theorem secTF {sz i : Nat} {done : List Byt} (h : i < sz) : secN (TF sz done) i = 2 + i := by
  unfold secN TF; simp only [Nat.zero_add]; rw [Nat.mod_eq_of_lt h]
theorem secTH {sz i : Nat} (h : i < sz) : secN (TH sz) i = 2 + i := by
  unfold secN TH; simp only [Nat.zero_add]; rw [Nat.mod_eq_of_lt h]
theorem needs_take_le (rs : List Byt) (k : Nat) : needs (rs.take k) ≤ needs rs := by
  induction rs generalizing k with
  | nil => simp [needs]
  | cons r rs ih =>
    cases k with
    | zero => simp [needs]
    | succ k => have := ih k; simp [needs] at *; omega

structure Sy (sz : Nat) (S : PSt) (done : List Byt) (k : Nat) : Prop where
  len : S.all.length = sz + 2
  szb : 6 ≤ sz ∧ sz ≤ 45
  head1 : S.get 1 = headB (1 : Nat) (1 : Nat) (0 : Nat) (1 : Nat)
  head0 : S.get 0 = noughts
  laid : Laid (fun i => S.get (2 + i)) 1 0 done
  room : needs done ≤ sz
  kle : k ≤ done.length
  cached : ∀ j : Nat, S.cache (j : Int) ≠ none → 2 + needs (done.take k) ≤ j ∧ j < 2 + needs done
  dur : ∀ i, needs (done.take k) ≤ i → i < sz → S.all.getD (2 + i) [] = noughts
  c64 : ∀ (j : Int) (b : Byt), S.cache j = some b → b.length = 64

theorem get_none {S : PSt} {j : Nat} (h : S.cache (j : Int) = none) : S.get j = S.all.getD j [] := by simp [PSt.get, h]
theorem Sy.free {sz : Nat} {S : PSt} {done : List Byt} {k i : Nat} (h : Sy sz S done k) (h1 : needs done ≤ i) (h2 : i < sz) : S.cache ((2 + i : Nat) : Int) = none ∧ S.get (2 + i) = noughts := by
  have hc : S.cache ((2 + i : Nat) : Int) = none := by
    cases hx : S.cache ((2 + i : Nat) : Int) with
    | none => rfl
    | some b => have := h.cached (2 + i) (by rw [hx]; exact fun e => by cases e); omega
  exact ⟨hc, by rw [get_none hc]; exact h.dur i (Nat.le_trans (needs_take_le _ _) h1) h2⟩

theorem sy_fresh {sz : Nat} (hs : 6 ≤ sz ∧ sz ≤ 45) : Sy sz (begun (blank (sz + 2)) 1 1 0 1) [] 0 := by
  have hl : (blank (sz + 2)).all.length = sz + 2 := by simp [blank]
  have hb : ∀ i, i < sz + 2 → (blank (sz + 2)).get i = noughts := fun i hi => blank_get (by omega)
  have hg : ∀ i, i < sz + 2 → i ≠ 1 → (begun (blank (sz + 2)) 1 1 0 1).get i = noughts := fun i hi h1 => by rw [begun_get (by omega), if_neg (by omega), hb _ hi]
  refine ⟨by rw [begun_len]; exact hl, hs, by rw [begun_get (by omega)]; rfl, hg 0 (by omega) (by omega), trivial, by simp [needs], Nat.le_refl _, fun j hj => absurd rfl hj, fun i _ hi => ?_, fun j b hj => by cases hj⟩
  rw [← get_none (S := begun (blank (sz + 2)) 1 1 0 1) (j := 2 + i) rfl]
  exact hg _ (by omega) (by omega)

theorem sy_put {sz : Nat} {S : PSt} {done : List Byt} {k : Nat} {rec : Byt} (h : Sy sz S done k) (h0 : 0 < rec.length) (h1 : rec.length ≤ 2000) (hn : needN rec.length ≤ sz - needs done) : Sy sz (putRec (TF sz done) S rec (needN rec.length)) (done ++ [rec]) k := by
  have hroom := h.room
  have hnd : needs (done ++ [rec]) = needs done + needN rec.length := needs_snoc _ _
  have htk : (done ++ [rec]).take k = done.take k := List.take_append_of_le_length h.kle
  have hcl : ∀ j, (chunk rec j).length ≤ 40 := fun j => by rw [chunk_len]; omega
  have key : ∀ m, m ≤ needN rec.length → (∀ j, j < m → (putRec (TF sz done) S rec m).get (2 + needs done + j) = recPiece (1 + done.length) rec j) ∧
      (∀ i : Nat, (i < 2 + needs done ∨ 2 + needs done + m ≤ i) → (putRec (TF sz done) S rec m).cache (i : Int) = S.cache (i : Int)) ∧ (∀ (j : Int) (b : Byt), (putRec (TF sz done) S rec m).cache j = some b → b.length = 64) := by
    intro m
    induction m with
    | zero => intro _; exact ⟨fun j hj => by omega, fun i _ => rfl, h.c64⟩
    | succ m ih =>
      intro hm
      obtain ⟨i1, i2, i3⟩ := ih (by omega)
      have e : putRec (TF sz done) S rec (m + 1) = (putRec (TF sz done) S rec m).write (2 + needs done + m) (recPiece (1 + done.length) rec m) := by
        show (putRec (TF sz done) S rec m).write (secN (TF sz done) (needs done + m)) _ = _
        rw [secTF (by omega), Nat.add_assoc]; rfl
      rw [e]
      refine ⟨fun j hj => ?_, fun i hi => ?_, fun j b hb => ?_⟩
      · rw [get_write]
        by_cases hjm : j = m
        · subst hjm; rw [if_pos rfl]
        · rw [if_neg (by omega)]; exact i1 j (by omega)
      · show (if (i : Int) = ((2 + needs done + m : Nat) : Int) then _ else _) = _
        rw [if_neg (by omega)]; exact i2 i (by omega)
      · have hb' : (if j = ((2 + needs done + m : Nat) : Int) then some (recPiece (1 + done.length) rec m) else (putRec (TF sz done) S rec m).cache j) = some b := hb
        split at hb'
        · injection hb' with hb'; subst hb'; exact pieceB_len (hcl m)
        · exact i3 j b hb'
  obtain ⟨i1, i2, i3⟩ := key _ (Nat.le_refl _)
  have hall : (putRec (TF sz done) S rec (needN rec.length)).all = S.all := putRec_all _ _ _ _
  have hold : ∀ i : Nat, (i < 2 + needs done ∨ 2 + needs done + needN rec.length ≤ i) → (putRec (TF sz done) S rec (needN rec.length)).get i = S.get i := fun i hi => by
    unfold PSt.get; rw [i2 i hi, hall]
  refine ⟨by rw [hall]; exact h.len, h.szb, by rw [hold _ (by omega)]; exact h.head1, by rw [hold _ (by omega)]; exact h.head0, ?_, by omega, by rw [List.length_append]; have := h.kle; omega, fun j hj => ?_, fun i hi hi2 => ?_, i3⟩
  · refine Laid.snoc (h.laid.congr fun i _ hi => hold _ (by omega)) ⟨h0, h1, fun j hj => ?_⟩
    show (putRec (TF sz done) S rec (needN rec.length)).get (2 + (0 + needs done + j)) = _
    rw [show 2 + (0 + needs done + j) = 2 + needs done + j by omega]
    exact i1 j hj
  · rw [htk, hnd]
    have hle := needs_take_le done k
    by_cases hx : j < 2 + needs done ∨ 2 + needs done + needN rec.length ≤ j
    · rw [i2 j hx] at hj
      have := h.cached j hj
      omega
    · omega
  · rw [htk] at hi; rw [hall]; exact h.dur i hi hi2

theorem sy_sync {sz : Nat} {S : PSt} {done : List Byt} {k : Nat} (h : Sy sz S done k) : Sy sz S.sync done done.length := by
  have hl := h.len
  have hg : ∀ i, i < sz + 2 → S.sync.get i = S.get i := fun i hi => get_sync (by omega)
  have hroom := h.room
  have hsz := h.szb
  refine ⟨by rw [sync_len]; exact hl, h.szb, by rw [hg _ (by omega)]; exact h.head1, by rw [hg _ (by omega)]; exact h.head0, h.laid.congr (fun i _ hi => hg _ (by omega)), hroom, Nat.le_refl _, fun j hj => absurd rfl hj, fun i hi hi2 => ?_, fun j b hb => by cases hb⟩
  rw [List.take_length] at hi
  rw [← get_none (S := S.sync) (j := 2 + i) rfl, hg _ (by omega)]
  exact (h.free hi hi2).2

theorem crash_get2 {S : PSt} {ks : List Int} {torn n : Int} {j : Nat} (h : j < S.all.length) : (crashS S ks torn n).get j = (crashK2 S ks torn n (j : Int)).getD (S.all.getD j []) :=
  get_sync (S := { all := S.all, cache := crashK2 S ks torn n }) h

theorem sy_crash {sz : Nat} {S : PSt} {done : List Byt} {k : Nat} {ks : List Int} {torn n : Int} (h : Sy sz S done k) :
    headsT (crashS S ks torn n) 2 = TH sz ∧ ∃ m, m ≤ done.length ∧ k ≤ m ∧ scanS (crashS S ks torn n) (TH sz) = done.take m := by
  have hl := h.len
  have hsz := h.szb
  have hroom := h.room
  have hsame : ∀ j, j < sz + 2 → S.cache (j : Int) = none → (crashS S ks torn n).get j = S.get j := by
    intro j hj hc
    rw [crash_get2 (by omega), get_none hc]
    have : crashK2 S ks torn n (j : Int) = none := by
      unfold crashK2 crashK
      split
      · rename_i he; rw [← he.1, hc]; rfl
      · split
        · exact hc
        · rfl
    rw [this]; rfl
  have hhead : ∀ j : Nat, j < 2 → S.cache (j : Int) = none := fun j hj => by
    cases hx : S.cache (j : Int) with
    | none => rfl
    | some b => have := h.cached j (by rw [hx]; exact fun e => by cases e); omega
  have hgg : ∀ i, i < sz → (crashS S ks torn n).get (2 + i) = S.get (2 + i) ∨ (needs (done.take k) ≤ i ∧ ((crashS S ks torn n).get (2 + i)).getD 63 0 ≠ 167) := by
    intro i hi
    cases hx : S.cache ((2 + i : Nat) : Int) with
    | none => exact .inl (hsame _ (by omega) hx)
    | some b =>
      have hc := h.cached (2 + i) (by rw [hx]; exact fun e => by cases e)
      have hb64 := h.c64 _ b hx
      have hall : S.all.getD (2 + i) [] = noughts := h.dur i (by omega) hi
      have hgb : S.get (2 + i) = b := by unfold PSt.get; rw [hx]; rfl
      rw [crash_get2 (by omega), hgb, hall]
      unfold crashK2 crashK
      split
      · rename_i he
        rw [← he.1, hx]
        show (tornB S ((2 + i : Nat) : Int) n b) = b ∨ _
        have htn : S.all.getD (((2 + i : Nat) : Int)).toNat [] = noughts := by rw [Int.toNat_natCast]; exact hall
        unfold tornB
        rw [htn]
        have hn64 : min n.toNat 64 ≤ 64 := Nat.min_le_right _ _
        generalize min n.toNat 64 = nn at hn64 ⊢
        by_cases hfull : nn = 64
        · left
          subst hfull
          rw [List.take_of_length_le (by omega), List.drop_eq_nil_of_le (by rw [noughts_len]; omega), List.append_nil]
        · right
          refine ⟨by omega, ?_⟩
          show (b.take nn ++ noughts.drop nn).getD 63 0 ≠ 167
          rw [List.getD_eq_getElem?_getD, List.getElem?_append_right (by simp; omega)]
          have h0 : ∀ x ∈ noughts.drop nn, x = 0 := fun x hx => List.eq_of_mem_replicate (List.mem_of_mem_drop hx)
          cases hq : (noughts.drop nn)[63 - (b.take nn).length]? with
          | none => simp
          | some x => rw [h0 x (List.mem_of_getElem? hq)]; simp
      · split
        · left; rw [hx]; rfl
        · right; exact ⟨by omega, noughts_end⟩
  refine ⟨?_, ?_⟩
  · have hal : (crashS S ks torn n).all.length = sz + 2 := by unfold crashS; rw [sync_len]; exact hl
    obtain ⟨e0, e1, e2, e3⟩ := headB_num (n := 1) (l := 1) (p := 0) (f := 1) (by omega) (by omega) (by omega) (by omega)
    have g0 : (crashS S ks torn n).get 0 = noughts := by rw [hsame 0 (by omega) (hhead 0 (by omega))]; exact h.head0
    have g1 : (crashS S ks torn n).get 1 = headB (1 : Nat) (1 : Nat) (0 : Nat) (1 : Nat) := by rw [hsame 1 (by omega) (hhead 1 (by omega))]; exact h.head1
    have k1 : headsT (crashS S ks torn n) 1 = { size := sz, number := 0, life := 0, place := 0, first := 0, next := 0, used := 0 } := by
      show stepH (headsT (crashS S ks torn n) 0) _ 0 = _
      unfold stepH
      rw [if_neg (fun x => okHead_noughts (by rw [← g0]; exact x.1))]
      show WSt.mk ((crashS S ks torn n).all.length - 2) 0 0 0 0 0 0 = _
      rw [hal]; rfl
    show stepH (headsT (crashS S ks torn n) 1) ((crashS S ks torn n).get 1) 1 = _
    rw [k1, g1]
    unfold stepH
    rw [if_pos ⟨headB_okHead (n := 1) (by omega) (by omega) (by omega) (by show (0 : Nat) < sz; omega) (by show sz ≤ 8192; omega) (by omega) (by omega) (by omega), by rw [e0]; show ((0 : Nat) : Int) < ((1 : Nat) : Int); omega⟩, e0, e1, e2, e3]
    rfl
  · have hll := laid_len h.laid
    have hsec : ∀ i, i < sz → (crashS S ks torn n).get (secN (TH sz) i) = (crashS S ks torn n).get (2 + i) := fun i hi => by rw [secTH hi]
    obtain ⟨m, hm, hsc, hk⟩ := scan_prefix (g := fun i => S.get (2 + i)) (g' := fun i => (crashS S ks torn n).get (secN (TH sz) i)) (size := sz) (a := needs (done.take k)) (fun i hi => by rw [hsec i hi]; exact hgg i hi) done (sz + 1) 1 0 h.laid (by omega) (by omega) (fun hlt => by
      rw [hsec _ hlt, Nat.zero_add]
      have hf := h.free (i := needs done) (Nat.le_refl _) (by omega)
      rw [hsame _ (by omega) hf.1, hf.2]; exact noughts_end)
    exact ⟨m, hm, hk k h.kle (by omega), hsc⟩
end Go.Proofs.Ytijjnlfmlcbfpaa

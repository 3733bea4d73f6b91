/- What a log's sectors say: plain laws, no program in sight. -/
import Derived.Test.YtijjnlfmlcbfpaaCrash
set_option linter.unusedVariables false
set_option maxRecDepth 4000
namespace Go.Proofs.Ytijjnlfmlcbfpaa
open Go

/-! ## Numbers of eight bytes -/

theorem numStep_low {a x : Int} (ha : 0 ≤ a) (hx : 0 ≤ x) (hx2 : x < 256) (h : a * 256 + x < 9223372036854775808) : numStep a x = a * 256 + x := by
  obtain ⟨m, rfl⟩ := Int.eq_ofNat_of_zero_le ha
  obtain ⟨y, rfl⟩ := Int.eq_ofNat_of_zero_le hx
  have hy : y < 256 := by omega
  have hm : m * 256 + y < 9223372036854775808 := by omega
  unfold numStep
  rw [show (2 : Int) ^ (8 : Int).toNat = 256 by decide, in64 (by omega) (by omega)]
  have h1 : (m * 256) ||| y = m * 256 + y := by
    have := Nat.two_pow_add_eq_or_of_lt (i := 8) (b := y) (by simpa using hy) m
    rw [Nat.mul_comm]; simpa using this.symm
  have h4 : (m * 256) % 18446744073709551616 = m * 256 := Nat.mod_eq_of_lt (by omega)
  have h5 : y % 18446744073709551616 = y := Nat.mod_eq_of_lt (by omega)
  have key : (BitVec.ofInt 64 (((m * 256 : Nat)) : Int) ||| BitVec.ofInt 64 (y : Int)).toNat = m * 256 + y := by
    rw [BitVec.toNat_or]
    have t1 : (BitVec.ofInt 64 ((m * 256 : Nat) : Int)).toNat = m * 256 := by rw [BitVec.ofInt_natCast, BitVec.toNat_ofNat]; exact h4
    have t2 : (BitVec.ofInt 64 (y : Int)).toNat = y := by rw [BitVec.ofInt_natCast, BitVec.toNat_ofNat]; exact h5
    rw [t1, t2, h1]
  have h6 : ((m : Int) * 256) = ((m * 256 : Nat) : Int) := by omega
  rw [h6]
  exact (congrArg (fun q : Nat => IntKind.i64.wrap (q : Int)) key).trans ((in64 (by omega) (by omega)).trans (by omega))

theorem wrap8 (n : Int) : IntKind.u8.wrap n = n % 256 := by
  simp only [IntKind.wrap, IntKind.bits, IntKind.signed]; simp
theorem numB_eight {n : Nat} (h : n < 9223372036854775808) : numB (eightB n) = (n : Int) := by
  have e : eightB n = [(n : Int) / 72057594037927936 % 256, (n : Int) / 281474976710656 % 256, (n : Int) / 1099511627776 % 256, (n : Int) / 4294967296 % 256, (n : Int) / 16777216 % 256, (n : Int) / 65536 % 256, (n : Int) / 256 % 256, (n : Int) / 1 % 256] := by
    simp [eightB, List.range, List.range.loop, wrap8]
  rw [e]
  unfold numB
  simp only [List.foldl_cons, List.foldl_nil]
  have s0 : numStep 0 ((n : Int) / 72057594037927936 % 256) = (n : Int) / 72057594037927936 := by rw [numStep_low (by omega) (by omega) (by omega) (by omega)]; omega
  have s1 : numStep ((n : Int) / 72057594037927936) ((n : Int) / 281474976710656 % 256) = (n : Int) / 281474976710656 := by rw [numStep_low (by omega) (by omega) (by omega) (by omega)]; omega
  have s2 : numStep ((n : Int) / 281474976710656) ((n : Int) / 1099511627776 % 256) = (n : Int) / 1099511627776 := by rw [numStep_low (by omega) (by omega) (by omega) (by omega)]; omega
  have s3 : numStep ((n : Int) / 1099511627776) ((n : Int) / 4294967296 % 256) = (n : Int) / 4294967296 := by rw [numStep_low (by omega) (by omega) (by omega) (by omega)]; omega
  have s4 : numStep ((n : Int) / 4294967296) ((n : Int) / 16777216 % 256) = (n : Int) / 16777216 := by rw [numStep_low (by omega) (by omega) (by omega) (by omega)]; omega
  have s5 : numStep ((n : Int) / 16777216) ((n : Int) / 65536 % 256) = (n : Int) / 65536 := by rw [numStep_low (by omega) (by omega) (by omega) (by omega)]; omega
  have s6 : numStep ((n : Int) / 65536) ((n : Int) / 256 % 256) = (n : Int) / 256 := by rw [numStep_low (by omega) (by omega) (by omega) (by omega)]; omega
  have s7 : numStep ((n : Int) / 256) ((n : Int) / 1 % 256) = (n : Int) / 1 := by rw [numStep_low (by omega) (by omega) (by omega) (by omega)]; omega
  rw [s0, s1, s2, s3, s4, s5, s6, s7, Int.ediv_one]

/-! ## Heads -/

theorem take_drop_mid {a b c : Byt} {i k : Nat} (ha : a.length = i) (hb : b.length = k) : ((a ++ (b ++ c)).take (i + k)).drop i = b := by
  rw [List.take_append, List.drop_append]
  simp [ha, hb]

theorem headB_word {n l p f : Nat} {i : Nat} (hi : i < 4) : wordB (headB n l p f) i = eightB (([n, l, p, f] : List Nat).getD i 0) := by
  have e : headB n l p f = [104] ++ (eightB n ++ (eightB l ++ (eightB p ++ (eightB f ++ (List.replicate 26 0 ++ sum4 (sumB (padB (headRaw n l p f).flatten))))))) := by
    unfold headB sealedB padB
    rw [headRaw_len]
    simp [headRaw]
  unfold wordB
  have h8 := eightB_len
  obtain rfl | rfl | rfl | rfl : i = 0 ∨ i = 1 ∨ i = 2 ∨ i = 3 := by omega
  · rw [e]; exact take_drop_mid (i := 1) (k := 8) rfl (h8 _)
  · rw [e, ← List.append_assoc]; exact take_drop_mid (i := 9) (k := 8) (by simp [h8]) (h8 _)
  · rw [e, ← List.append_assoc, ← List.append_assoc]; exact take_drop_mid (i := 17) (k := 8) (by simp [h8]) (h8 _)
  · rw [e, ← List.append_assoc, ← List.append_assoc, ← List.append_assoc]; exact take_drop_mid (i := 25) (k := 8) (by simp [h8]) (h8 _)
theorem headB_num {n l p f : Nat} (hn : n ≤ 1152921504606846976) (hl : l ≤ 1152921504606846976) (hp : p ≤ 1152921504606846976) (hf : f ≤ 1152921504606846976) :
    numAt (headB n l p f) 0 = n ∧ numAt (headB n l p f) 1 = l ∧ numAt (headB n l p f) 2 = p ∧ numAt (headB n l p f) 3 = f := by
  refine ⟨?_, ?_, ?_, ?_⟩ <;> (unfold numAt; rw [headB_word (by omega)]; exact numB_eight (by simp; omega))
theorem headB_okHead {n l p f size : Nat} (hn : n ≤ 1152921504606846976) (hl : l ≤ 1152921504606846976) (hf : f ≤ 1152921504606846976) (hp : p < size) (hs : size ≤ 8192) (h1 : 0 < n) (h2 : 0 < l) (h3 : 0 < f) : okHead (headB n l p f) (n % 2) size := by
  obtain ⟨e0, e1, e2, e3⟩ := headB_num (n := n) (l := l) (p := p) (f := f) hn hl (by omega) hf
  refine ⟨fun i hi => ?_, by omega, by rw [e0]; simp, by omega, by omega, by omega, by rw [e0, e1, e2, e3]⟩
  unfold inR
  obtain rfl | rfl | rfl | rfl : i = 0 ∨ i = 1 ∨ i = 2 ∨ i = 3 := by omega
  all_goals omega

/-! ## Pieces -/

theorem piece_parts {n : Int} {part : Byt} {first last : Bool} (h1 : part.length ≤ 40) : cntB (pieceB n part first last) = part.length ∧ partB (pieceB n part first last) = part ∧ isLast (pieceB n part first last) = last := by
  have e : pieceB n part first last = (114 :: eightB n) ++ ([IntKind.u8.wrap part.length, flagI first, flagI last] ++ (part ++ (List.replicate (59 - (12 + part.length)) 0 ++ sum4 (sumB (padB (pieceRaw n part first last).flatten))))) := by
    unfold pieceB sealedB padB
    rw [pieceRaw_len]
    simp [pieceRaw]
  have h9 : (114 :: eightB n).length = 9 := by simp [eightB_len]
  have hc : cntB (pieceB n part first last) = part.length := by
    unfold cntB
    rw [e, List.getD_eq_getElem?_getD, List.getElem?_append_right (by omega), h9]
    simp [wrap8]; omega
  refine ⟨hc, ?_, ?_⟩
  · unfold partB
    rw [hc, e, ← List.append_assoc]
    exact take_drop_mid (by simp [eightB_len]) rfl
  · unfold isLast
    rw [e, List.getD_eq_getElem?_getD, List.getElem?_append_right (by omega), h9]
    cases last <;> simp [flagI]
theorem pieceB_end {n : Int} {part : Byt} {first last : Bool} (h : part.length ≤ 40) : (pieceB n part first last).getD 63 0 = 167 := by
  unfold pieceB sealedB
  have := padB_len (b := (pieceRaw n part first last).flatten) (by rw [pieceRaw_len]; omega)
  rw [List.getD_eq_getElem?_getD, List.getElem?_append_right (by omega), this]
  simp [sum4]
end Go.Proofs.Ytijjnlfmlcbfpaa

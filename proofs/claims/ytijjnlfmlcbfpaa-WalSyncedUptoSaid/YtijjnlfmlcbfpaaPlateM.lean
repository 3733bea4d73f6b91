/- The program's plate: making one of an image, or of noughts. -/
import Derived.Test.YtijjnlfmlcbfpaaPlateW
set_option linter.unusedVariables false
set_option maxRecDepth 4000
namespace Go.Proofs.Ytijjnlfmlcbfpaa
open Go

/-- A fresh copy of bytes that lies apart from the row a. -/
def Apart (w0 w : World) (a : Option Addr) (u : Value) (bs : Byt) : Prop :=
  ∃ a1 cp, u = .slice a1 bs.length cp ∧ w.ownsRow w0.heap.size 5 1 u bs.length (u8s bs) ∧ ∀ k, isBlk a1 k → ¬ isBlk a k
theorem Apart.one {w0 w : World} {a : Option Addr} {u : Value} {bs : Byt} (h : Apart w0 w a u bs) : u.oneCell' = true := by obtain ⟨a1, cp, rfl, _⟩ := h; rfl

theorem clone_ok {w : World} {p L c : Nat} {a : Option Addr} {vs : List Value} {bss : List Byt} (hp : w.cell? ⟨p, 0, none⟩ = some (.slice a L c)) (hr : Row w a L vs) (hlen : vs.length = bss.length) (hs : ∀ (j : Nat) (v : Value) (b : Byt), vs[j]? = some v → bss[j]? = some b → SlB w v b)
    (hL : L ≤ 1000000000) (hB : ∀ b ∈ bss, b.length ≤ 140737488355328) :
    Ret Try.prog 76 #[.pointer (some ⟨p, 0, none⟩)] w fun v w' => ∃ a' c' vs', v = .slice a' L c' ∧ w'.ownsRow w.heap.size 28 1 v L vs' ∧ (∀ (j : Nat) (u : Value) (b : Byt), vs'[j]? = some u → bss[j]? = some b → Apart w w' a' u b) ∧ Chg No w w' ∧ (a' = none ↔ L = 0) := by
  have hbl : bss.length = L := by rw [← hlen]; exact hr.1
  refine Ret_of_X 22 Try.func76 rfl Try.ntmps76 rfl rfl ?_
  refine XC_seq rfl ?_
  refine XC_region rfl ?_
  refine o_as (.slice _ _ _) rfl rfl rfl rfl ?_
  refine XO_end rfl ?_
  refine thenX_normal ?_
  refine XC_seq rfl ?_
  refine XC_region rfl ?_
  refine o_as (.slice _ _ _) rfl rfl rfl rfl ?_
  refine XO_end rfl ?_
  refine thenX_normal ?_
  refine XC_seq rfl ?_
  refine XC_seq rfl ?_
  refine XC_region rfl ?_
  refine o_mv (.pointer _) rfl rfl rfl rfl ?_
  refine o_nilc rfl rfl rfl rfl ?_
  refine o_fa0 0 rfl rfl rfl Try.underlying94 rfl Try.sizeOf22 rfl rfl rfl ?_
  refine o_ld (.slice _ _ _) rfl rfl rfl Try.isAgg22 rfl (hp) ?_
  refine o_len rfl rfl rfl Try.underlying22 rfl ?_
  refine o_mv (.int _ _) rfl rfl rfl rfl ?_
  refine XO_end rfl ?_
  refine thenX_normal ?_
  refine XC_block (id := 0) rfl ?_
  refine XC_loop (fun m l w' => ∃ (k : Nat) (a3 : Option Addr) (c3 : Nat) (vs' : List Value), l = [(3, .slice a3 k c3), (9, .slice a L c), (10, .int .i64 (L : Int)), (11, .int .i64 (k : Int))] ∧ k ≤ L ∧ m = L - k ∧ Chg No w w' ∧ w'.ownsRow w.heap.size 28 1 (.slice a3 k c3) k vs' ∧ (∀ (j : Nat) (u : Value) (b : Byt), vs'[j]? = some u → bss[j]? = some b → Apart w w' a3 u b) ∧ (a3 = none ↔ k = 0)) rfl (L) [(3, .slice none (0 : Nat) 0), (9, .slice a L c), (10, .int .i64 (L : Int)), (11, .int .i64 ((0 : Nat) : Int))] ?_ ?_ ?_
  · exact Agrees.cons rfl (Agrees.cons rfl (Agrees.cons rfl (Agrees.cons rfl (Agrees.nil _))))
  · exact ⟨0, none, 0, [], rfl, by omega, rfl, Chg.refl _ _, World.ownsRow_nil _ _ _ _, fun j u b h => by simp at h, by simp⟩
  intro m l wr g ⟨k, a3, c3, vs', hl, hk, hm, hcw, hown, hap, hnil⟩
  subst hl
  refine XC_seq rfl ?_
  refine XC_region rfl ?_
  refine o_lss rfl rfl rfl rfl rfl ?_
  refine XO_end rfl ?_
  refine thenX_normal ?_
  refine XC_seq rfl ?_
  refine XC_cond rfl rfl (fun hlt => ?_) (fun hlt => ?_)
  · try simp only [decide_eq_true_eq, decide_eq_false_iff_not, Int.not_lt, Int.not_le, ne_eq, Decidable.not_not, gt_iff_lt, ge_iff_le] at hlt
    have hlt' : k < L := by omega
    obtain ⟨b, o, v, ha, hv, hc⟩ := hr.at_ hlt'
    obtain ⟨bs, hbs⟩ : ∃ bs, bss[k]? = some bs := ⟨_, List.getElem?_eq_getElem (by omega)⟩
    obtain ⟨a2, c2, rfl, hrow⟩ := hs k v bs hv hbs
    have hbl2 := hB bs (List.mem_of_getElem? hbs)
    have hsz := hcw.size
    subst ha
    refine XC_skip rfl ?_
    refine thenX_normal ?_
    refine XC_seq rfl ?_
    refine XC_block (id := 1) rfl ?_
    refine XC_seq rfl ?_
    refine XC_region rfl ?_
    refine o_ia (k) rfl rfl rfl Try.underlying22 Try.sizeOf28 rfl rfl (by first | rfl | omega) (by omega) ?_
    refine o_ld (.slice _ _ _) rfl rfl rfl Try.isAgg28 rfl (cell_keep hcw hc (fun h => h)) ?_
    refine o_as (.slice _ _ _) rfl rfl rfl rfl ?_
    refine XO_end rfl ?_
    refine thenX_normal ?_
    refine XC_region rfl ?_
    refine o_mv (.slice _ _ _) rfl rfl rfl rfl ?_
    refine o_mv (.slice _ _ _) rfl rfl rfl rfl ?_
    refine XO_stepd rfl rfl rfl rfl (m_call Try.call15 (Clone_ok (hrow.keepNo hcw) (u8s_one bs) hbl2) rfl ?_)
    rintro _ w2 ⟨a4, c4, rfl, ho2, hc2, hn2⟩
    refine XO_stepd rfl rfl rfl rfl (m_bsl [.slice _ _ _] Try.underlying22 Try.sizeOf28 Try.zeroValue28 rfl rfl rfl rfl (by simp [Value.oneCell']) ?_)
    intro w3 hc3 hs3 hB3
    have hrow3 : Row w3 (some ⟨w2.heap.size, 0, none⟩) 1 [.slice a4 bs.length c4] := Row.of_at hB3 rfl (fun j v h => by simpa using h)
    have hown3 := own_keep (own_keep hown hc2 (fun _ _ h => h)) hc3 (fun _ _ h => h)
    have hsz2 := hc2.size
    refine XO_stepd rfl rfl rfl rfl (m_app (bytes := 24) Try.underlying22 Try.typeInfo28 rfl rfl rfl rfl rfl rfl (hown3) (hrow3) ((by intro u hu; simp at hu; subst hu; rfl)) (by omega) (by omega) (by omega) ?_)
    intro a5 c5 w4 ho5 hc5 hb5 hn5
    have hcw4 : Chg No w w4 := ((hcw.trans hc2).trans hc3).then hc5 (fun _ _ h => h) (fun i hi hm => by have := own_blk hown i hm; omega)
    have hsz3 : w3.heap.size ≤ w4.heap.size := hc5.size
    have hblk : ∀ a1 : Option Addr, (∀ k, isBlk a1 k → ¬ isBlk a3 k ∧ k < w3.heap.size) → ∀ k, isBlk a1 k → ¬ isBlk a5 k := fun a1 h1 k hk h5 => by rcases hb5 k h5 with h6 | h6; exact (h1 k hk).1 h6; have := (h1 k hk).2; omega
    have hap4 : ∀ (j : Nat) (u : Value) (b : Byt), (vs' ++ [.slice a4 bs.length c4])[j]? = some u → bss[j]? = some b → Apart w w4 a5 u b := by
      intro j u b' hu hb'
      have hvl : vs'.length = k := by have := hown.1; omega
      rcases Nat.lt_or_ge j k with hjk | hjk
      · rw [List.getElem?_append_left (by omega)] at hu
        obtain ⟨a1, cp, rfl, ho1, hd1⟩ := hap j u b' hu hb'
        have ho1b := own_keep (own_keep ho1 hc2 (fun _ _ h => h)) hc3 (fun _ _ h => h)
        refine ⟨a1, cp, rfl, own_keep ho1b hc5 (fun k hk h5 => ?_), hblk a1 fun k hk => ⟨hd1 k hk, (own_blk ho1b k hk).2⟩⟩
        cases a1 with
        | none => simp [Value.ownBlock] at hk
        | some ad => simp [Value.ownBlock] at hk; exact hd1 k ⟨ad, rfl, hk⟩ h5
      · rw [List.getElem?_append_right (by omega)] at hu
        have hj0 : j = k := by
          have := (List.getElem?_eq_some_iff.1 hu).1
          simp at this; omega
        subst hj0
        rw [hvl, Nat.sub_self] at hu
        simp at hu; subst hu
        rw [hbs] at hb'; injection hb' with hb'; subst hb'
        have hne3 : ∀ k, isBlk a4 k → ¬ isBlk a3 k := fun k hk h3 => by have h7 := own_blk hown k h3; have h8 := own_blk ho2 k hk; omega
        have ho2b := own_keep ho2 hc3 (fun _ _ h => h)
        refine ⟨a4, c4, rfl, own_lower (own_keep ho2b hc5 (fun k hk h5 => ?_)) hsz, hblk a4 fun k hk => ⟨hne3 k hk, (own_blk ho2b k hk).2⟩⟩
        cases a4 with
        | none => simp [Value.ownBlock] at hk
        | some ad => simp [Value.ownBlock] at hk; exact hne3 k ⟨ad, rfl, hk⟩ h5
    refine o_as (.slice _ _ _) rfl rfl rfl rfl ?_
    refine XO_end rfl ?_
    refine inBlockX_normal ?_
    refine thenX_normal ?_
    refine XC_region rfl ?_
    refine o_add _ rfl rfl rfl rfl rfl (in64 (by omega) (by omega)) ?_
    refine o_mv (.int _ _) rfl rfl rfl rfl ?_
    refine XO_end rfl ?_
    refine thenX_normal ?_
    exact ⟨L - (k + 1), [(3, .slice a5 (k + 1) c5), (9, .slice _ L c), (10, .int .i64 (L : Int)), (11, .int .i64 ((k : Int) + 1))], by omega, Agrees.cons rfl (Agrees.cons rfl (Agrees.cons rfl (Agrees.cons rfl (Agrees.nil _)))), ⟨k + 1, a5, c5, vs' ++ [.slice a4 bs.length c4], rfl, by omega, rfl, hcw4, ho5, hap4, by rw [hn5]; simp⟩⟩
  · try simp only [decide_eq_true_eq, decide_eq_false_iff_not, Int.not_lt, Int.not_le, ne_eq, Decidable.not_not, gt_iff_lt, ge_iff_le] at hlt
    obtain rfl : k = L := by omega
    refine XC_exit rfl ?_
    refine thenX_exit ?_
    refine thenX_exit ?_
    refine inBlockX_here ?_
    refine thenX_normal ?_
    refine XC_seq rfl ?_
    refine XC_region rfl ?_
    refine o_mv (.slice _ _ _) rfl rfl rfl rfl ?_
    refine o_as (.slice _ _ _) rfl rfl rfl rfl ?_
    refine XO_end rfl ?_
    refine thenX_normal ?_
    refine XC_ret rfl ?_
    refine topX_ret ?_
    refine RetV_of (.slice _ _ _) rfl ?_
    exact ⟨a3, c3, vs', rfl, hown, hap, hcw, hnil⟩

/-- The blocks of a plate that has just been made. -/
theorem Of_ok {γ : Nat → Nat} {c : Nat} {w : World} {L cp : Nat} {a : Option Addr} {vs : List Value} {bss : List Byt} (hr : Row w a L vs) (hlen : vs.length = bss.length) (hs : ∀ (j : Nat) (v : Value) (b : Byt), vs[j]? = some v → bss[j]? = some b → SlB w v b)
    (h1 : 1 ≤ L) (h2 : L ≤ 8192) (h64 : ∀ b ∈ bss, b.length = 64 ∧ Okb b) (hc0 : c ≠ 0) :
    Ret Try.prog 22 #[.slice a L cp] w fun v w' => ∃ p γ', v = .tuple #[.pointer (some ⟨p, 0, none⟩), .int .i64 0] ∧ w.heap.size ≤ p ∧ Ext γ γ' (fun _ => False) w w' ∧ PlAt γ' c w' p { all := bss, cache := fun _ => none } := by
  have hbl : bss.length = L := by rw [← hlen]; exact hr.1
  have hsl : ∀ v ∈ vs, isSl v ∧ lenV v = 64 := by
    intro v hv
    obtain ⟨j, hj, he⟩ := List.getElem_of_mem hv
    obtain ⟨a1, c1, e, _⟩ := hs j v bss[j] (by rw [← he]; exact List.getElem?_eq_getElem hj) (List.getElem?_eq_getElem (by omega))
    refine ⟨⟨_, _, _, e⟩, ?_⟩
    rw [e]; exact (h64 _ (List.getElem_mem _)).1
  refine Ret_of_X 28 Try.func22 rfl Try.ntmps22 rfl rfl ?_
  refine XC_seq rfl ?_
  refine XC_region rfl ?_
  refine o_as (.pointer _) rfl rfl rfl rfl ?_
  refine o_as (.int _ _) rfl rfl rfl rfl ?_
  refine XO_end rfl ?_
  refine thenX_normal ?_
  refine XC_seq rfl ?_
  refine XC_region rfl ?_
  refine o_as (.func _ _ _) rfl rfl rfl rfl ?_
  refine XO_end rfl ?_
  refine thenX_normal ?_
  refine XC_seq rfl ?_
  refine XC_seq rfl ?_
  refine XC_region rfl ?_
  refine o_mv (.slice _ _ _) rfl rfl rfl rfl ?_
  refine o_len rfl rfl rfl Try.underlying22 rfl ?_
  refine o_lss rfl rfl rfl rfl rfl ?_
  refine o_mv (.bool _) rfl rfl rfl rfl ?_
  refine XO_bool 9 rfl (fun hb => ?_) (fun hb => ?_)
  · exfalso; simp at hb <;> omega
  refine o_mv (.slice _ _ _) rfl rfl rfl rfl ?_
  refine o_len rfl rfl rfl Try.underlying22 rfl ?_
  refine o_gtr rfl rfl rfl rfl rfl ?_
  refine o_pick0 (.bool _) rfl rfl rfl rfl rfl ?_
  refine o_mv (.bool _) rfl rfl rfl rfl ?_
  refine XO_bool 14 rfl (fun hb => ?_) (fun hb => ?_)
  · exfalso; simp at hb <;> omega
  refine o_mv (.slice _ _ _) rfl rfl rfl rfl ?_
  refine o_mv (.func _ _ _) rfl rfl rfl rfl ?_
  refine XO_stepd rfl rfl rfl rfl (m_call Try.call75 (ContainsFunc_ok hr (fun v hv => (hsl v hv).1) (fun v hv => by rw [(hsl v hv).2]; omega) (by omega)) rfl ?_)
  rintro _ _ ⟨bad, rfl, hbad, rfl⟩
  have hb0 : bad = false := by cases bad with | false => rfl | true => obtain ⟨v, hv, hne⟩ := hbad.1 rfl; exact absurd (hsl v hv).2 hne
  subst hb0
  refine o_pick0 (.bool _) rfl rfl rfl rfl rfl ?_
  refine XO_end rfl ?_
  refine thenX_normal ?_
  refine XC_cond_false rfl rfl ?_
  refine XC_skip rfl ?_
  refine thenX_normal ?_
  refine XC_seq rfl ?_
  refine XC_region rfl ?_
  refine o_mv (.slice _ _ _) rfl rfl rfl rfl ?_
  refine o_build (pl := [(0, 1)]) [.slice _ _ _] rfl rfl rfl (by kernel_rfl) Try.zeroValue94 rfl rfl ?_
  refine XO_stepd rfl rfl rfl rfl (m_alloc [.slice _ _ _] Try.zeroValue94 rfl ?_)
  intro w1 hc1 hs1 hB1
  refine XO_stepn rfl rfl rfl (m_stA [.slice _ _ _] Try.sizeOf94 rfl rfl rfl (by simp [Value.oneCell']) (by assumption) (by simp) ?_)
  intro w2 hc2 hs2 hB2
  refine XO_end rfl ?_
  refine thenX_normal ?_
  have hc02 : Chg No w w2 := hc1.then hc2 (fun _ _ h => h) (fun i hi e => by omega)
  refine XC_seq rfl ?_
  refine XC_region rfl ?_
  refine XO_stepd rfl rfl rfl rfl (m_call Try.call76 (clone_ok (hB2.cell 0) (hr.keepNo hc02) hlen (fun j v b hv hb => (hs j v b hv hb).keepNo hc02) (by omega) (fun b hb => by rw [(h64 b hb).1]; omega)) rfl ?_)
  rintro _ w3 ⟨a3, c3, vs3, rfl, ho3, hap3, hc3, hn3⟩
  refine o_build (pl := [(0, 1)]) [.slice _ _ _] rfl rfl rfl (by kernel_rfl) Try.zeroValue94 rfl rfl ?_
  refine XO_stepd rfl rfl rfl rfl (m_mkm ?_)
  intro w4 hc4 hs4 hB4
  refine o_mv (.slice _ _ _) rfl rfl rfl rfl ?_
  refine o_len rfl rfl rfl Try.underlying22 rfl ?_
  refine o_build (pl := [(0, 1), (1, 1), (2, 1), (3, 1)]) [.slice _ _ _, .map _, .int _ _, .bool _] rfl rfl rfl (by kernel_rfl) Try.zeroValue97 rfl rfl ?_
  refine XO_stepd rfl rfl rfl rfl (m_box (.agg _) [.slice _ _ _, .map _, .int _ _, .bool _] rfl rfl ?_)
  intro w5 hc5 hs5 hB5
  have hc05 : Chg No w w5 := ((hc02.trans hc3).trans hc4).trans hc5
  have hsz2 := hc02.size
  have hsz3 := hc3.size
  have ho5 := own_keep (own_keep ho3 hc4 (fun _ _ h => h)) hc5 (fun _ _ h => h)
  obtain ⟨b, hab, hb5⟩ : ∃ b, a3 = some ⟨b, 0, none⟩ ∧ ∃ cur, At w5 b (.cells cur 28 (0, 0)) ∧ cur.size = c3 ∧ L ≤ c3 ∧ cur.toList.take L = vs3 ∧ w2.heap.size ≤ b := by
    rcases ho5.2 with ⟨_, h0⟩ | ⟨g, cap, cur, hv, hg, hat, hle, _, hsz, htk⟩
    · omega
    · injection hv with e1 _ e3; subst e3
      exact ⟨g, e1, cur, hat, by omega, hle, by simpa using htk, hg⟩
  subst hab
  obtain ⟨cur, hbat, hcs, hLc, htk, hbge⟩ := hb5
  have hbl3 : b < w3.heap.size := (own_blk ho3 b ⟨_, rfl, rfl⟩).2
  have hext : Ext γ (recol γ w.heap.size (fun k => k = w4.heap.size ∨ k = w3.heap.size ∨ k = b) c) (fun _ => False) w w5 := Ext.recol (hc05.mono fun _ _ h => h)
  have hm5 : MapAt w5 w3.heap.size [] := MapAt.made (hB4.keep hc5 (fun h => h))
  refine o_as (.pointer _) rfl rfl rfl rfl ?_
  refine o_as (.int _ _) rfl rfl rfl rfl ?_
  refine XO_end rfl ?_
  refine thenX_normal ?_
  refine XC_ret rfl ?_
  refine topX_ret ?_
  refine RetV_of (.tuple #[.pointer _, .int _ _]) rfl ?_
  refine ⟨_, _, rfl, by omega, hext, ⟨by simp; omega, fun k h => absurd rfl h, b, w3.heap.size, c3, vs3, [], ⟨by simpa [hbl] using hB5, ⟨cur, hbat, hcs, by rw [hbl]; exact hLc, by rw [hbl]; exact htk⟩, hm5⟩, recol_in (by omega) (.inl rfl), recol_in (by omega) (.inr (.inr rfl)), recol_in (by omega) (.inr (.inl rfl)), ⟨by rw [← htk]; simp; omega, fun j u bs hu hbs => ?_⟩, fun k => .inl ⟨rfl, rfl⟩⟩⟩
  obtain ⟨a1, c1, rfl, ho1, hd1⟩ := hap3 j u bs hu hbs
  have h64' := h64 bs (List.mem_of_getElem? hbs)
  have ho15 := own_keep (own_keep ho1 hc4 (fun _ _ h => h)) hc5 (fun _ _ h => h)
  rw [h64'.1] at ho15 ⊢
  have hlt1 := own_blk ho1
  refine SecAt.of_own_at ho15 h64'.1 h64'.2 fun k hk => recol_out (by have := (hlt1 k hk).1; omega) ?_
  rintro (h | h | h)
  · have := (hlt1 k hk).2; omega
  · have := (hlt1 k hk).2; omega
  · subst h; exact hd1 k hk ⟨_, rfl, rfl⟩

def noughts : Byt := List.replicate 64 0
theorem noughts_len : noughts.length = 64 := by simp [noughts]
theorem noughts_ok : Okb noughts := fun x hx => by rw [List.eq_of_mem_replicate hx]; omega

theorem New_ok {γ : Nat → Nat} {c : Nat} {w : World} {n : Nat} {i : Int} (hi : i = (n : Int)) (h1 : 1 ≤ n) (h2 : n ≤ 8192) (hc0 : c ≠ 0) :
    Ret Try.prog 48 #[.int .i64 i] w fun v w' => ∃ p γ', v = .tuple #[.pointer (some ⟨p, 0, none⟩), .int .i64 0] ∧ w.heap.size ≤ p ∧ Ext γ γ' (fun _ => False) w w' ∧ PlAt γ' c w' p { all := List.replicate n noughts, cache := fun _ => none } := by
  subst hi
  refine Ret_of_X 17 Try.func48 rfl Try.ntmps48 rfl rfl ?_
  refine XC_seq rfl ?_
  refine XC_region rfl ?_
  refine o_as (.pointer _) rfl rfl rfl rfl ?_
  refine o_as (.int _ _) rfl rfl rfl rfl ?_
  refine XO_end rfl ?_
  refine thenX_normal ?_
  refine XC_seq rfl ?_
  refine XC_seq rfl ?_
  refine XC_region rfl ?_
  refine o_mv (.int _ _) rfl rfl rfl rfl ?_
  refine o_lss rfl rfl rfl rfl rfl ?_
  refine o_mv (.bool _) rfl rfl rfl rfl ?_
  refine XO_bool 6 rfl (fun hb => ?_) (fun hb => ?_)
  · exfalso; simp at hb <;> omega
  refine o_mv (.int _ _) rfl rfl rfl rfl ?_
  refine o_gtr rfl rfl rfl rfl rfl ?_
  refine o_pick0 (.bool _) rfl rfl rfl rfl rfl ?_
  refine XO_end rfl ?_
  refine thenX_normal ?_
  refine XC_cond rfl rfl (fun hb => ?_) (fun hb => ?_)
  · exfalso; simp at hb <;> omega
  refine XC_skip rfl ?_
  refine thenX_normal ?_
  refine XC_seq rfl ?_
  refine XC_region rfl ?_
  refine XO_stepd rfl rfl rfl rfl (m_mksl (bytes := 1) (64) (64) Try.underlying28 Try.typeInfo5 rfl rfl rfl rfl rfl rfl (by first | rfl | omega) (by first | rfl | omega) (by omega) (by omega) (by omega) ?_)
  intro w1 hc1 hs1 hB1
  refine XO_stepd rfl rfl rfl rfl (m_bsl [.slice _ _ _] Try.underlying22 Try.sizeOf28 Try.zeroValue28 rfl rfl rfl rfl (by simp [Value.oneCell']) ?_)
  intro w2 hc2 hs2 hB2
  have hrow2 : Row w2 (some ⟨w1.heap.size, 0, none⟩) 1 [.slice (some ⟨w.heap.size, 0, none⟩) 64 64] := Row.of_at hB2 rfl (fun j v h => by simpa using h)
  refine o_mv (.int _ _) rfl rfl rfl rfl ?_
  refine XO_stepd rfl rfl rfl rfl (m_call Try.call94 (Repeat_ok hrow2 rfl rfl h1 h2) rfl ?_)
  rintro _ w3 ⟨b, rfl, hb3, hB3, hc3⟩
  have hc03 : Chg No w w3 := (hc1.trans hc2).trans hc3
  have hrow3 : Row w3 (some ⟨b, 0, none⟩) n (List.replicate n (.slice (some ⟨w.heap.size, 0, none⟩) 64 64)) := Row.of_at hB3 (by simp) (fun j v h => by simpa using h)
  have hB13 := hB1.keep (hc2.trans hc3) (fun h => h)
  have hsec : SlB w3 (.slice (some ⟨w.heap.size, 0, none⟩) 64 64) noughts := ⟨_, _, by rw [noughts_len], Row.of_at hB13 (by simp [u8s_len]) (fun j v h => by simpa [u8s, noughts] using h)⟩
  refine XO_stepd rfl rfl rfl rfl (m_call Try.call22 (Of_ok (γ := γ) (c := c) (bss := List.replicate n noughts) hrow3 (by simp) (fun j v b hv hb => by rw [List.getElem?_replicate] at hv hb; split at hv; (injection hv with hv; rw [if_pos ‹_›] at hb; injection hb with hb; subst hv; subst hb; exact hsec); cases hv) h1 h2 (fun b hb => by rw [List.eq_of_mem_replicate hb]; exact ⟨noughts_len, noughts_ok⟩) hc0) rfl ?_)
  rintro _ w4 ⟨p, γ', rfl, hp, hext, hpl⟩
  refine o_ext (.pointer _) rfl rfl rfl rfl rfl ?_
  refine o_ext (.int _ _) rfl rfl rfl rfl rfl ?_
  refine o_as (.pointer _) rfl rfl rfl rfl ?_
  refine o_as (.int _ _) rfl rfl rfl rfl ?_
  refine XO_end rfl ?_
  refine thenX_normal ?_
  refine XC_ret rfl ?_
  refine topX_ret ?_
  refine RetV_of (.tuple #[.pointer _, .int _ _]) rfl ?_
  exact ⟨p, γ', rfl, by have := hc03.size; omega, ⟨hc03.then hext.chg (fun _ _ h => h.elim) (fun _ _ h => h), fun k hk => hext.col k (by have := hc03.size; omega)⟩, hpl⟩
end Go.Proofs.Ytijjnlfmlcbfpaa

/- The log in memory, and the contracts of what reads it and appends to it. -/
import Derived.Test.YtijjnlfmlcbfpaaWalB
set_option linter.unusedVariables false
set_option maxRecDepth 4000
namespace Go.Proofs.Ytijjnlfmlcbfpaa
open Go

/-- A row that nobody writes any more. -/
def RowZ (γ : Nat → Nat) (w : World) (a : Option Addr) (l : Nat) (xs : List Value) : Prop := Row w a l xs ∧ ∀ k, 0 < l → isBlk a k → γ k = 0
theorem RowZ.ext {γ γ' : Nat → Nat} {C : Nat → Prop} {w w' : World} {a : Option Addr} {l : Nat} {xs : List Value} (h : RowZ γ w a l xs) (e : Ext γ γ' C w w') (hc : ¬ C 0) : RowZ γ' w' a l xs :=
  ⟨h.1.keep e.chg (fun hl k hb hm => hc (by rw [h.2 k hl hb] at hm; exact hm)), fun k hl hb => (e.col k (h.1.blk_lt hl hb)).trans (h.2 k hl hb)⟩

structure WSt where
  size : Nat
  number : Nat
  life : Nat
  place : Nat
  first : Nat
  next : Nat
  used : Nat

abbrev walK (p size number life place first next used : Nat) : Array Value := #[.pointer (some ⟨p, 0, none⟩), .int .i64 (size : Int), .int .i64 (number : Int), .int .i64 (life : Int), .int .i64 (place : Int), .int .i64 (first : Int), .int .i64 (next : Int), .int .i64 (used : Int)]
abbrev walC (p : Nat) (T : WSt) : Array Value := walK p T.size T.number T.life T.place T.first T.next T.used
/-- A log and its plate: the log's own block has colour d, the plate's blocks have colour c. -/
structure Log (γ : Nat → Nat) (c d : Nat) (w : World) (q p : Nat) (T : WSt) (S : PSt) : Prop where
  pl : PlAt γ c w p S
  wa : At w q (.cells (walC p T) 104 (0, 0))
  gq : γ q = d
  sz : S.all.length = T.size + 2
  pos : 1 ≤ T.size
  place : T.place < T.size
  used : T.used ≤ T.size
  next : T.next ≤ 1152921504606846977
  c0 : c ≠ 0
  d0 : d ≠ 0
  cd : c ≠ d

theorem Log.ext {γ γ' : Nat → Nat} {C : Nat → Prop} {c d : Nat} {w w' : World} {q p : Nat} {T : WSt} {S : PSt} (h : Log γ c d w q p T S) (e : Ext γ γ' C w w') (h0 : ¬ C 0) (hc : ¬ C c) (hd : ¬ C d) : Log γ' c d w' q p T S :=
  { h with pl := h.pl.ext e h0 hc, wa := h.wa.keep e.chg (by rw [h.gq]; exact hd), gq := (e.col _ h.wa.lt).trans h.gq }
theorem Log.no {γ : Nat → Nat} {c d : Nat} {w w' : World} {q p : Nat} {T : WSt} {S : PSt} (h : Log γ c d w q p T S) (e : Chg No w w') : Log γ c d w' q p T S :=
  h.ext (C := fun _ => False) (Ext.ofNo e) id id id
/-- A step of the plate alone. -/
theorem Log.plate {γ γ' : Nat → Nat} {c d : Nat} {w w' : World} {q p : Nat} {T : WSt} {S S' : PSt} (h : Log γ c d w q p T S) (e : Ext γ γ' (· = c) w w') (hp : PlAt γ' c w' p S') (hl : S'.all.length = S.all.length) : Log γ' c d w' q p T S' :=
  { h with pl := hp, wa := h.wa.keep e.chg (by rw [h.gq]; exact fun x => h.cd x.symm), gq := (e.col _ h.wa.lt).trans h.gq, sz := by rw [hl, h.sz] }
/-- A step of the log's own block. -/
theorem Log.own {γ : Nat → Nat} {c d : Nat} {w w' : World} {q p : Nat} {T : WSt} {S : PSt} (h : Log γ c d w q p T S) (e : Chg (fun k => k = q) w w') : Ext γ γ (fun k => k = c ∨ k = d) w w' ∧ PlAt γ c w' p S :=
  have e1 : Ext γ γ (· = d) w w' := ⟨e.mono fun _ _ x => by subst x; exact h.gq, fun _ _ => rfl⟩
  ⟨e1.mono fun _ x => .inr x, h.pl.ext e1 (fun x => h.d0 x.symm) (fun x => h.cd x)⟩

def secN (T : WSt) (i : Nat) : Nat := 2 + (T.place + i) % T.size
theorem secN_lt {T : WSt} {i : Nat} (h : 1 ≤ T.size) : secN T i < T.size + 2 := by unfold secN; have := Nat.mod_lt (T.place + i) (show 0 < T.size from h); omega

section
variable {γ : Nat → Nat} {c d : Nat} {w : World} {q p : Nat} {T : WSt} {S : PSt}

theorem none_ok (h : Log γ c d w q p T S) : Ret Try.prog 56 #[.pointer (some ⟨q, 0, none⟩)] w fun v w' => v = .bool false ∧ w = w' := by
  have hq := h.wa
  refine Ret_of_X 12 Try.func56 rfl Try.ntmps56 rfl rfl ?_
  refine XC_seq rfl ?_
  refine XC_region rfl ?_
  refine o_as (.bool _) rfl rfl rfl rfl ?_
  refine XO_end rfl ?_
  refine thenX_normal ?_
  refine XC_seq rfl ?_
  refine XC_region rfl ?_
  refine o_mv (.pointer _) rfl rfl rfl rfl ?_
  refine o_eqp rfl rfl rfl Try.underlying23 rfl rfl ?_
  refine o_mv (.bool _) rfl rfl rfl rfl ?_
  refine o_mv (.pointer _) rfl rfl rfl rfl ?_
  refine o_nilc rfl rfl rfl rfl ?_
  refine o_fa0 0 rfl rfl rfl Try.underlying104 rfl Try.sizeOf24 rfl rfl rfl ?_
  refine o_ldB (.pointer _) rfl rfl rfl Try.isAgg24 rfl (by assumption) rfl ?_
  refine o_eqp rfl rfl rfl Try.underlying24 rfl rfl ?_
  refine o_pick0 (.bool _) rfl rfl rfl rfl rfl ?_
  refine o_as (.bool _) rfl rfl rfl rfl ?_
  refine XO_end rfl ?_
  refine thenX_normal ?_
  refine XC_ret rfl ?_
  refine topX_ret ?_
  refine RetV_of (.bool _) rfl ?_
  exact ⟨rfl, rfl⟩

theorem Room_ok (h : Log γ c d w q p T S) : Ret Try.prog 13 #[.pointer (some ⟨q, 0, none⟩)] w fun v w' => v = .int .i64 ((T.size - T.used : Nat) : Int) ∧ Chg No w w' := by
  have hq := h.wa
  have hu := h.used
  have hz := h.sz
  have hz2 := h.pl.len
  refine Ret_of_X 14 Try.func13 rfl Try.ntmps13 rfl rfl ?_
  refine XC_seq rfl ?_
  refine XC_region rfl ?_
  refine o_as (.int _ _) rfl rfl rfl rfl ?_
  refine XO_end rfl ?_
  refine thenX_normal ?_
  refine XC_seq rfl ?_
  refine XC_seq rfl ?_
  refine XC_region rfl ?_
  refine o_mv (.pointer _) rfl rfl rfl rfl ?_
  refine XO_stepd rfl rfl rfl rfl (m_call Try.call56 (none_ok h) rfl ?_)
  rintro _ _ ⟨rfl, rfl⟩
  refine XO_end rfl ?_
  refine thenX_normal ?_
  refine XC_cond_false rfl rfl ?_
  refine XC_skip rfl ?_
  refine thenX_normal ?_
  refine XC_seq rfl ?_
  refine XC_draw (fun w' => Chg No w w') Trymixed rfl 10 rfl ?_
  intro w2 hc2 hh2
  have hS := hc2
  refine q_mv (i := 0) (.pointer _) rfl rfl rfl (by kernel_rfl) rfl (fun _ => ?_) hS
  refine q_nilc (i := 1) rfl rfl rfl (by kernel_rfl) rfl (fun _ => ?_) hS
  refine q_fa0 (i := 2) 1 rfl rfl rfl (by kernel_rfl) Try.underlying104 rfl Try.sizeOf3 rfl rfl rfl (fun _ => ?_) hS
  refine q_ld (i := 3) (.int _ _) rfl rfl rfl (by kernel_rfl) Try.isAgg3 rfl (fun _ h => by rw [(hq.keep h (fun x => x)).cell]; rfl) (fun _ => ?_) hS
  refine q_mv (i := 4) (.pointer _) rfl rfl rfl (by kernel_rfl) rfl (fun _ => ?_) hS
  refine q_nilc (i := 5) rfl rfl rfl (by kernel_rfl) rfl (fun _ => ?_) hS
  refine q_fa0 (i := 6) 7 rfl rfl rfl (by kernel_rfl) Try.underlying104 rfl Try.sizeOf3 rfl rfl rfl (fun _ => ?_) hS
  refine q_ld (i := 7) (.int _ _) rfl rfl rfl (by kernel_rfl) Try.isAgg3 rfl (fun _ h => by rw [(hq.keep h (fun x => x)).cell]; rfl) (fun _ => ?_) hS
  refine q_sub (i := 8) _ rfl rfl rfl (by kernel_rfl) rfl rfl (in64 (by omega) (by omega)) (fun _ => ?_) hS
  refine q_as (i := 9) (.int _ _) rfl rfl rfl (by kernel_rfl) rfl (fun _ => ?_) hS
  refine XH_done (by kernel_rfl) hS ?_
  refine thenX_normal ?_
  refine XC_ret rfl ?_
  refine topX_ret ?_
  refine RetV_of (.int _ _) rfl ?_
  exact ⟨by congr 1; omega, hS⟩

theorem Last_ok (h : Log γ c d w q p T S) : Ret Try.prog 14 #[.pointer (some ⟨q, 0, none⟩)] w fun v w' => v = .int .i64 ((T.next : Int) - 1) ∧ w = w' := by
  have hq := h.wa
  have hx := h.next
  refine Ret_of_X 10 Try.func14 rfl Try.ntmps14 rfl rfl ?_
  refine XC_seq rfl ?_
  refine XC_region rfl ?_
  refine o_as (.int _ _) rfl rfl rfl rfl ?_
  refine XO_end rfl ?_
  refine thenX_normal ?_
  refine XC_seq rfl ?_
  refine XC_seq rfl ?_
  refine XC_region rfl ?_
  refine o_mv (.pointer _) rfl rfl rfl rfl ?_
  refine XO_stepd rfl rfl rfl rfl (m_call Try.call56 (none_ok h) rfl ?_)
  rintro _ _ ⟨rfl, rfl⟩
  refine XO_end rfl ?_
  refine thenX_normal ?_
  refine XC_cond_false rfl rfl ?_
  refine XC_skip rfl ?_
  refine thenX_normal ?_
  refine XC_seq rfl ?_
  refine XC_region rfl ?_
  refine o_mv (.pointer _) rfl rfl rfl rfl ?_
  refine o_nilc rfl rfl rfl rfl ?_
  refine o_fa0 6 rfl rfl rfl Try.underlying104 rfl Try.sizeOf3 rfl rfl rfl ?_
  refine o_ldB (.int _ _) rfl rfl rfl Try.isAgg3 rfl (by assumption) rfl ?_
  refine o_sub _ rfl rfl rfl rfl rfl (in64 (by omega) (by omega)) ?_
  refine o_as (.int _ _) rfl rfl rfl rfl ?_
  refine XO_end rfl ?_
  refine thenX_normal ?_
  refine XC_ret rfl ?_
  refine topX_ret ?_
  refine RetV_of (.int _ _) rfl ?_
  exact ⟨rfl, rfl⟩

theorem Life_ok (h : Log γ c d w q p T S) : Ret Try.prog 20 #[.pointer (some ⟨q, 0, none⟩)] w fun v w' => v = .int .i64 (T.life : Int) ∧ w = w' := by
  have hq := h.wa
  have hx := h.next
  refine Ret_of_X 10 Try.func20 rfl Try.ntmps20 rfl rfl ?_
  refine XC_seq rfl ?_
  refine XC_region rfl ?_
  refine o_as (.int _ _) rfl rfl rfl rfl ?_
  refine XO_end rfl ?_
  refine thenX_normal ?_
  refine XC_seq rfl ?_
  refine XC_seq rfl ?_
  refine XC_region rfl ?_
  refine o_mv (.pointer _) rfl rfl rfl rfl ?_
  refine XO_stepd rfl rfl rfl rfl (m_call Try.call56 (none_ok h) rfl ?_)
  rintro _ _ ⟨rfl, rfl⟩
  refine XO_end rfl ?_
  refine thenX_normal ?_
  refine XC_cond_false rfl rfl ?_
  refine XC_skip rfl ?_
  refine thenX_normal ?_
  refine XC_seq rfl ?_
  refine XC_region rfl ?_
  refine o_mv (.pointer _) rfl rfl rfl rfl ?_
  refine o_nilc rfl rfl rfl rfl ?_
  refine o_fa0 2 rfl rfl rfl Try.underlying104 rfl Try.sizeOf102 rfl rfl rfl ?_
  refine o_fa 1 rfl rfl rfl Try.underlying102 rfl Try.sizeOf3 rfl rfl rfl ?_
  refine o_ldB (.int _ _) rfl rfl rfl Try.isAgg3 rfl (by assumption) rfl ?_
  refine o_as (.int _ _) rfl rfl rfl rfl ?_
  refine XO_end rfl ?_
  refine thenX_normal ?_
  refine XC_ret rfl ?_
  refine topX_ret ?_
  refine RetV_of (.int _ _) rfl ?_
  exact ⟨rfl, rfl⟩

theorem sector_ok {i : Nat} (h : Log γ c d w q p T S) (hi : i ≤ 8192) : Ret Try.prog 60 #[.pointer (some ⟨q, 0, none⟩), .int .i64 (i : Int)] w fun v w' => v = .int .i64 ((secN T i : Nat) : Int) ∧ Chg No w w' := by
  have hq := h.wa
  have hz := h.sz
  have hz2 := h.pl.len
  have hpl := h.place
  have hpos := h.pos
  have hml := Nat.mod_lt (T.place + i) (show 0 < T.size from hpos)
  refine Ret_of_X 18 Try.func60 rfl Try.ntmps60 rfl rfl ?_
  refine XC_seq rfl ?_
  refine XC_region rfl ?_
  refine o_as (.int _ _) rfl rfl rfl rfl ?_
  refine XO_end rfl ?_
  refine thenX_normal ?_
  refine XC_seq rfl ?_
  refine XC_draw (fun w' => Chg No w w') Trymixed rfl 14 rfl ?_
  intro w2 hc2 hh2
  have hS := hc2
  refine q_mv (i := 0) (.pointer _) rfl rfl rfl (by kernel_rfl) rfl (fun _ => ?_) hS
  refine q_nilc (i := 1) rfl rfl rfl (by kernel_rfl) rfl (fun _ => ?_) hS
  refine q_fa0 (i := 2) 2 rfl rfl rfl (by kernel_rfl) Try.underlying104 rfl Try.sizeOf102 rfl rfl rfl (fun _ => ?_) hS
  refine q_fa (i := 3) 2 rfl rfl rfl (by kernel_rfl) Try.underlying102 rfl Try.sizeOf3 rfl rfl rfl (fun _ => ?_) hS
  refine q_ld (i := 4) (.int _ _) rfl rfl rfl (by kernel_rfl) Try.isAgg3 rfl (fun _ h => by rw [(hq.keep h (fun x => x)).cell]; rfl) (fun _ => ?_) hS
  refine q_mv (i := 5) (.int _ _) rfl rfl rfl (by kernel_rfl) rfl (fun _ => ?_) hS
  refine q_add (i := 6) _ rfl rfl rfl (by kernel_rfl) rfl rfl (in64 (by omega) (by omega)) (fun _ => ?_) hS
  refine q_mv (i := 7) (.pointer _) rfl rfl rfl (by kernel_rfl) rfl (fun _ => ?_) hS
  refine q_nilc (i := 8) rfl rfl rfl (by kernel_rfl) rfl (fun _ => ?_) hS
  refine q_fa0 (i := 9) 1 rfl rfl rfl (by kernel_rfl) Try.underlying104 rfl Try.sizeOf3 rfl rfl rfl (fun _ => ?_) hS
  refine q_ld (i := 10) (.int _ _) rfl rfl rfl (by kernel_rfl) Try.isAgg3 rfl (fun _ h => by rw [(hq.keep h (fun x => x)).cell]; rfl) (fun _ => ?_) hS
  refine q_rem (i := 11) ((((T.place + i) % T.size : Nat) : Int)) rfl rfl rfl (by kernel_rfl) rfl rfl (by omega) (by rw [← Int.natCast_add, ← Int.ofNat_tmod]) (fun _ => ?_) hS
  refine q_add (i := 12) _ rfl rfl rfl (by kernel_rfl) rfl rfl (in64 (by omega) (by omega)) (fun _ => ?_) hS
  refine q_as (i := 13) (.int _ _) rfl rfl rfl (by kernel_rfl) rfl (fun _ => ?_) hS
  refine XH_done (by kernel_rfl) hS ?_
  refine thenX_normal ?_
  refine XC_ret rfl ?_
  refine topX_ret ?_
  refine RetV_of (.int _ _) rfl ?_
  exact ⟨by unfold secN; congr 1, hS⟩
end

/-! ## Append -/

def chunk (rec : Byt) (j : Nat) : Byt := (rec.take (min (40 * j + 40) rec.length)).drop (40 * j)
def recPiece (n : Nat) (rec : Byt) (j : Nat) : Byt := pieceB (n : Int) (chunk rec j) (decide ((40 * j : Nat) = 0)) (decide (min (40 * j + 40) rec.length = rec.length))
noncomputable def putRec (T : WSt) (S : PSt) (rec : Byt) : Nat → PSt
  | 0 => S
  | j + 1 => (putRec T S rec j).write (secN T (T.used + j)) (recPiece T.next rec j)
theorem putRec_all (T : WSt) (S : PSt) (rec : Byt) : ∀ j, (putRec T S rec j).all = S.all
  | 0 => rfl
  | j + 1 => by show (putRec T S rec j).all = _; exact putRec_all T S rec j
theorem chunk_len {rec : Byt} {j : Nat} : (chunk rec j).length = min (40 * j + 40) rec.length - 40 * j := by simp [chunk]

section
variable {γ : Nat → Nat} {c d : Nat} {w : World} {q p : Nat} {T : WSt} {S : PSt}

theorem Append_arg (h : Log γ c d w q p T S) {a : Option Addr} {L cp : Nat} (hm : mayN L = false) :
    Ret Try.prog 12 #[.pointer (some ⟨q, 0, none⟩), .slice a L cp] w fun v w' => v = .tuple #[.int .i64 0, .int .i64 1] ∧ w = w' := by
  refine Ret_of_X 88 Try.func12 rfl Try.ntmps12 rfl rfl ?_
  refine XC_seq rfl ?_
  refine XC_region rfl ?_
  refine o_as (.int _ _) rfl rfl rfl rfl ?_
  refine o_as (.int _ _) rfl rfl rfl rfl ?_
  refine XO_end rfl ?_
  refine thenX_normal ?_
  refine XC_seq rfl ?_
  refine XC_block (id := 0) rfl ?_
  refine XC_seq rfl ?_
  refine XC_region rfl ?_
  refine o_mv (.pointer _) rfl rfl rfl rfl ?_
  refine XO_stepd rfl rfl rfl rfl (m_call Try.call56 (none_ok h) rfl ?_)
  rintro _ _ ⟨rfl, rfl⟩
  refine o_as (.bool _) rfl rfl rfl rfl ?_
  refine XO_end rfl ?_
  refine thenX_normal ?_
  refine XC_cond_false rfl rfl ?_
  refine XC_seq rfl ?_
  refine XC_region rfl ?_
  refine o_mv (.slice _ _ _) rfl rfl rfl rfl ?_
  refine XO_stepd rfl rfl rfl rfl (m_call Try.call57 (may_ok) rfl ?_)
  rintro _ _ ⟨rfl, rfl⟩
  refine o_not rfl rfl rfl rfl ?_
  refine o_as (.bool _) rfl rfl rfl rfl ?_
  refine XO_end rfl ?_
  refine thenX_normal ?_
  refine XC_cond rfl rfl (fun hb => ?_) (fun hb => ?_)
  rotate_left
  · exfalso; rw [hm] at hb; cases hb
  refine XC_seq rfl ?_
  refine XC_region rfl ?_
  refine o_as (.int _ _) rfl rfl rfl rfl ?_
  refine o_as (.int _ _) rfl rfl rfl rfl ?_
  refine XO_end rfl ?_
  refine thenX_normal ?_
  refine XC_ret rfl ?_
  refine inBlockX_ret ?_
  refine thenX_ret ?_
  refine topX_ret ?_
  refine RetV_of (.tuple #[.int _ _, .int _ _]) rfl ?_
  exact ⟨rfl, rfl⟩

theorem Append_full (h : Log γ c d w q p T S) {a : Option Addr} {L cp : Nat} (hm : mayN L = true) (hf : T.size - T.used < needN L ∨ 1152921504606846976 < T.next) :
    Ret Try.prog 12 #[.pointer (some ⟨q, 0, none⟩), .slice a L cp] w fun v w' => v = .tuple #[.int .i64 0, .int .i64 4] ∧ Chg No w w' := by
  have hL : 0 < L ∧ L ≤ 2000 := by simpa [mayN] using hm
  refine Ret_of_X 88 Try.func12 rfl Try.ntmps12 rfl rfl ?_
  refine XC_seq rfl ?_
  refine XC_region rfl ?_
  refine o_as (.int _ _) rfl rfl rfl rfl ?_
  refine o_as (.int _ _) rfl rfl rfl rfl ?_
  refine XO_end rfl ?_
  refine thenX_normal ?_
  refine XC_seq rfl ?_
  refine XC_block (id := 0) rfl ?_
  refine XC_seq rfl ?_
  refine XC_region rfl ?_
  refine o_mv (.pointer _) rfl rfl rfl rfl ?_
  refine XO_stepd rfl rfl rfl rfl (m_call Try.call56 (none_ok h) rfl ?_)
  rintro _ _ ⟨rfl, rfl⟩
  refine o_as (.bool _) rfl rfl rfl rfl ?_
  refine XO_end rfl ?_
  refine thenX_normal ?_
  refine XC_cond_false rfl rfl ?_
  refine XC_seq rfl ?_
  refine XC_region rfl ?_
  refine o_mv (.slice _ _ _) rfl rfl rfl rfl ?_
  refine XO_stepd rfl rfl rfl rfl (m_call Try.call57 (may_ok) rfl ?_)
  rintro _ _ ⟨rfl, rfl⟩
  refine o_not rfl rfl rfl rfl ?_
  refine o_as (.bool _) rfl rfl rfl rfl ?_
  refine XO_end rfl ?_
  refine thenX_normal ?_
  refine XC_cond rfl rfl (fun hb => ?_) (fun hb => ?_)
  · exfalso; rw [hm] at hb; cases hb
  refine XC_seq rfl ?_
  refine XC_region rfl ?_
  refine o_mv (.slice _ _ _) rfl rfl rfl rfl ?_
  refine XO_stepd rfl rfl rfl rfl (m_call Try.call58 (need_ok (by omega)) rfl ?_)
  rintro _ _ ⟨rfl, rfl⟩
  refine o_mv (.pointer _) rfl rfl rfl rfl ?_
  refine XO_stepd rfl rfl rfl rfl (m_call Try.call13 (Room_ok h) rfl ?_)
  rintro _ w1 ⟨rfl, hc1⟩
  have hq1 := h.wa.keep hc1 (fun x => x)
  refine o_gtr rfl rfl rfl rfl rfl ?_
  refine o_mv (.bool _) rfl rfl rfl rfl ?_
  refine XO_bool 22 rfl (fun hg => ?_) (fun hg => ?_)
  · try simp only [decide_eq_true_eq, decide_eq_false_iff_not, Int.not_lt, Int.not_le, ne_eq, Decidable.not_not, gt_iff_lt, ge_iff_le] at hg
    refine XO_barred rfl rfl rfl rfl ?_
    refine XO_barred rfl rfl rfl rfl ?_
    refine XO_barred rfl rfl rfl rfl ?_
    refine XO_barred rfl rfl rfl rfl ?_
    refine XO_barred rfl rfl rfl rfl ?_
    refine o_pick1 (.bool _) rfl rfl rfl rfl rfl ?_
    refine o_as (.bool _) rfl rfl rfl rfl ?_
    refine XO_end rfl ?_
    refine thenX_normal ?_
    refine XC_cond_true rfl rfl ?_
    refine XC_seq rfl ?_
    refine XC_region rfl ?_
    refine o_as (.int _ _) rfl rfl rfl rfl ?_
    refine o_as (.int _ _) rfl rfl rfl rfl ?_
    refine XO_end rfl ?_
    refine thenX_normal ?_
    refine XC_ret rfl ?_
    refine inBlockX_ret ?_
    refine thenX_ret ?_
    refine topX_ret ?_
    refine RetV_of (.tuple #[.int _ _, .int _ _]) rfl ?_
    exact ⟨rfl, hc1⟩
  · try simp only [decide_eq_true_eq, decide_eq_false_iff_not, Int.not_lt, Int.not_le, ne_eq, Decidable.not_not, gt_iff_lt, ge_iff_le] at hg
    refine o_mv (.pointer _) rfl rfl rfl rfl ?_
    refine o_nilc rfl rfl rfl rfl ?_
    refine o_fa0 6 rfl rfl rfl Try.underlying104 rfl Try.sizeOf3 rfl rfl rfl ?_
    refine o_ldB (.int _ _) rfl rfl rfl Try.isAgg3 rfl (by assumption) rfl ?_
    refine o_gtr rfl rfl rfl rfl rfl ?_
    refine o_pick0 (.bool _) rfl rfl rfl rfl rfl ?_
    refine o_as (.bool _) rfl rfl rfl rfl ?_
    refine XO_end rfl ?_
    refine thenX_normal ?_
    refine XC_cond rfl rfl (fun hb => ?_) (fun hb => ?_)
    rotate_left
    · exfalso; simp at hb hg <;> omega
    refine XC_seq rfl ?_
    refine XC_region rfl ?_
    refine o_as (.int _ _) rfl rfl rfl rfl ?_
    refine o_as (.int _ _) rfl rfl rfl rfl ?_
    refine XO_end rfl ?_
    refine thenX_normal ?_
    refine XC_ret rfl ?_
    refine inBlockX_ret ?_
    refine thenX_ret ?_
    refine topX_ret ?_
    refine RetV_of (.tuple #[.int _ _, .int _ _]) rfl ?_
    exact ⟨rfl, hc1⟩

theorem Append_put (h : Log γ c d w q p T S) {a : Option Addr} {L cp : Nat} {rec : Byt} (hr : RowZ γ w a L (u8s rec)) (hok : Okb rec) (hcp : L ≤ cp) (hm : mayN L = true) (hf : needN L ≤ T.size - T.used) (hx : T.next ≤ 1152921504606846976) :
    Ret Try.prog 12 #[.pointer (some ⟨q, 0, none⟩), .slice a L cp] w fun v w' => v = .tuple #[.int .i64 (T.next : Int), .int .i64 0] ∧
      ∃ γ', Ext γ γ' (fun k => k = c ∨ k = d) w w' ∧ Log γ' c d w' q p { T with used := T.used + needN L, next := T.next + 1 } (putRec T S rec (needN L)) := by
  have hL : 0 < L ∧ L ≤ 2000 := by simpa [mayN] using hm
  have hrl : rec.length = L := by have := hr.1.1; rwa [u8s_len] at this
  have hC0 : ¬ (0 = c ∨ 0 = d) := fun x => x.elim (fun x => h.c0 x.symm) (fun x => h.d0 x.symm)
  have hz := h.sz
  have hz2 := h.pl.len
  have hnd : needN L = (L + 39) / 40 := rfl
  refine Ret_of_X 88 Try.func12 rfl Try.ntmps12 rfl rfl ?_
  refine XC_seq rfl ?_
  refine XC_region rfl ?_
  refine o_as (.int _ _) rfl rfl rfl rfl ?_
  refine o_as (.int _ _) rfl rfl rfl rfl ?_
  refine XO_end rfl ?_
  refine thenX_normal ?_
  refine XC_seq rfl ?_
  refine XC_block (id := 0) rfl ?_
  refine XC_seq rfl ?_
  refine XC_region rfl ?_
  refine o_mv (.pointer _) rfl rfl rfl rfl ?_
  refine XO_stepd rfl rfl rfl rfl (m_call Try.call56 (none_ok h) rfl ?_)
  rintro _ _ ⟨rfl, rfl⟩
  refine o_as (.bool _) rfl rfl rfl rfl ?_
  refine XO_end rfl ?_
  refine thenX_normal ?_
  refine XC_cond_false rfl rfl ?_
  refine XC_seq rfl ?_
  refine XC_region rfl ?_
  refine o_mv (.slice _ _ _) rfl rfl rfl rfl ?_
  refine XO_stepd rfl rfl rfl rfl (m_call Try.call57 (may_ok) rfl ?_)
  rintro _ _ ⟨rfl, rfl⟩
  refine o_not rfl rfl rfl rfl ?_
  refine o_as (.bool _) rfl rfl rfl rfl ?_
  refine XO_end rfl ?_
  refine thenX_normal ?_
  refine XC_cond rfl rfl (fun hb => ?_) (fun hb => ?_)
  · exfalso; rw [hm] at hb; cases hb
  refine XC_seq rfl ?_
  refine XC_region rfl ?_
  refine o_mv (.slice _ _ _) rfl rfl rfl rfl ?_
  refine XO_stepd rfl rfl rfl rfl (m_call Try.call58 (need_ok (by omega)) rfl ?_)
  rintro _ _ ⟨rfl, rfl⟩
  refine o_mv (.pointer _) rfl rfl rfl rfl ?_
  refine XO_stepd rfl rfl rfl rfl (m_call Try.call13 (Room_ok h) rfl ?_)
  rintro _ w1 ⟨rfl, hc1⟩
  have hq1 := h.wa.keep hc1 (fun x => x)
  refine o_gtr rfl rfl rfl rfl rfl ?_
  refine o_mv (.bool _) rfl rfl rfl rfl ?_
  refine XO_bool 22 rfl (fun hb => ?_) (fun hb => ?_)
  · exfalso; simp at hb <;> omega
  refine o_mv (.pointer _) rfl rfl rfl rfl ?_
  refine o_nilc rfl rfl rfl rfl ?_
  refine o_fa0 6 rfl rfl rfl Try.underlying104 rfl Try.sizeOf3 rfl rfl rfl ?_
  refine o_ldB (.int _ _) rfl rfl rfl Try.isAgg3 rfl (by assumption) rfl ?_
  refine o_gtr rfl rfl rfl rfl rfl ?_
  refine o_pick0 (.bool _) rfl rfl rfl rfl rfl ?_
  refine o_as (.bool _) rfl rfl rfl rfl ?_
  refine XO_end rfl ?_
  refine thenX_normal ?_
  refine XC_cond rfl rfl (fun hb => ?_) (fun hb => ?_)
  · exfalso; simp at hb <;> omega
  refine XC_skip rfl ?_
  refine inBlockX_normal ?_
  refine thenX_normal ?_
  refine XC_seq rfl ?_
  refine XC_seq rfl ?_
  refine XC_region rfl ?_
  refine o_as (.int _ _) rfl rfl rfl rfl ?_
  refine XO_end rfl ?_
  refine thenX_normal ?_
  refine XC_block (id := 1) rfl ?_
  refine XC_loop (fun m l w' => ∃ (j : Nat) (γ' : Nat → Nat), l = [(0, .pointer (some ⟨q, 0, none⟩)), (1, .slice a L cp), (6, .int .i64 ((40 * j : Nat) : Int))] ∧ j ≤ needN L ∧ m = needN L - j ∧ Ext γ γ' (fun k => k = c ∨ k = d) w w' ∧ Log γ' c d w' q p { T with used := T.used + j } (putRec T S rec j)) rfl (needN L) [(0, .pointer (some ⟨q, 0, none⟩)), (1, .slice a L cp), (6, .int .i64 ((40 * (0 : Nat) : Nat) : Int))] ?_ ?_ ?_
  · exact Agrees.cons rfl (Agrees.cons rfl (Agrees.cons rfl (Agrees.nil _)))
  · exact ⟨0, γ, rfl, by omega, rfl, Ext.ofNo hc1, h.no hc1⟩
  intro m l wr g ⟨j, γr, hl, hj, hm, he, hlog⟩
  subst hl
  refine XC_seq rfl ?_
  refine XC_seq rfl ?_
  refine XC_region rfl ?_
  refine o_mv (.int _ _) rfl rfl rfl rfl ?_
  refine o_mv (.slice _ _ _) rfl rfl rfl rfl ?_
  refine o_len rfl rfl rfl Try.underlying28 rfl ?_
  refine o_lss rfl rfl rfl rfl rfl ?_
  refine XO_end rfl ?_
  refine thenX_normal ?_
  refine XC_cond rfl rfl (fun hlt => ?_) (fun hlt => ?_)
  · try simp only [decide_eq_true_eq, decide_eq_false_iff_not, Int.not_lt, Int.not_le, ne_eq, Decidable.not_not, gt_iff_lt, ge_iff_le] at hlt
    have hlt' : j < needN L := by omega
    have hq : At wr q (.cells (walK p T.size T.number T.life T.place T.first T.next (T.used + j)) 104 (0, 0)) := hlog.wa
    have hrr := hr.ext he hC0
    have hqs := h.used
    refine XC_skip rfl ?_
    refine thenX_normal ?_
    refine XC_seq rfl ?_
    refine XC_block (id := 2) rfl ?_
    refine XC_seq rfl ?_
    refine XC_region rfl ?_
    refine o_mv (.int _ _) rfl rfl rfl rfl ?_
    refine o_add _ rfl rfl rfl rfl rfl (in64 (by omega) (by omega)) ?_
    refine o_mv (.slice _ _ _) rfl rfl rfl rfl ?_
    refine o_len rfl rfl rfl Try.underlying28 rfl ?_
    refine o_min (((min (40 * j + 40) L : Nat) : Int)) rfl rfl rfl rfl rfl (by omega) ?_
    refine o_as (.int _ _) rfl rfl rfl rfl ?_
    refine XO_end rfl ?_
    refine thenX_normal ?_
    refine XC_seq rfl ?_
    refine XC_seq rfl ?_
    refine XC_draw (fun w' => At w' q (.cells (walK p T.size T.number T.life T.place T.first T.next (T.used + j)) 104 (0, 0))) Trymixed rfl 27 rfl ?_
    intro w2 hN hh2
    have hS := hq.keep hN (fun x => x)
    refine q_mv (i := 0) (.pointer _) rfl rfl rfl (by kernel_rfl) rfl (fun _ => ?_) hS
    refine q_nilc (i := 1) rfl rfl rfl (by kernel_rfl) rfl (fun _ => ?_) hS
    refine q_fa0 (i := 2) 0 rfl rfl rfl (by kernel_rfl) Try.underlying104 rfl Try.sizeOf24 rfl rfl rfl (fun _ => ?_) hS
    refine q_ldB (i := 3) (.pointer _) rfl rfl rfl (by kernel_rfl) Try.isAgg24 rfl (fun _ h => h) rfl (fun _ => ?_) hS
    refine q_mv (i := 4) (.pointer _) rfl rfl rfl (by kernel_rfl) rfl (fun _ => ?_) hS
    refine q_mv (i := 5) (.pointer _) rfl rfl rfl (by kernel_rfl) rfl (fun _ => ?_) hS
    refine q_nilc (i := 6) rfl rfl rfl (by kernel_rfl) rfl (fun _ => ?_) hS
    refine q_fa0 (i := 7) 7 rfl rfl rfl (by kernel_rfl) Try.underlying104 rfl Try.sizeOf3 rfl rfl rfl (fun _ => ?_) hS
    refine q_ldB (i := 8) (.int _ _) rfl rfl rfl (by kernel_rfl) Try.isAgg3 rfl (fun _ h => h) rfl (fun _ => ?_) hS
    refine q_mv (i := 10) (.pointer _) rfl rfl rfl (by kernel_rfl) rfl (fun _ => ?_) hS
    refine q_nilc (i := 11) rfl rfl rfl (by kernel_rfl) rfl (fun _ => ?_) hS
    refine q_fa0 (i := 12) 6 rfl rfl rfl (by kernel_rfl) Try.underlying104 rfl Try.sizeOf3 rfl rfl rfl (fun _ => ?_) hS
    refine q_ldB (i := 13) (.int _ _) rfl rfl rfl (by kernel_rfl) Try.isAgg3 rfl (fun _ h => h) rfl (fun _ => ?_) hS
    refine q_mv (i := 14) (.slice _ _ _) rfl rfl rfl (by kernel_rfl) rfl (fun _ => ?_) hS
    refine q_mv (i := 15) (.int _ _) rfl rfl rfl (by kernel_rfl) rfl (fun _ => ?_) hS
    refine q_mv (i := 16) (.int _ _) rfl rfl rfl (by kernel_rfl) rfl (fun _ => ?_) hS
    refine q_cut (i := 17) (40 * j) (min (40 * j + 40) L) (cp) rfl rfl rfl (by kernel_rfl) Try.underlying28 Try.sizeOf5 rfl (fun _ => rfl) rfl ⟨_, _, rfl, by first | rfl | omega, by omega⟩ ⟨_, _, rfl, by first | rfl | omega, by omega⟩ (fun _ => ?_) hS
    refine q_mv (i := 18) (.int _ _) rfl rfl rfl (by kernel_rfl) rfl (fun _ => ?_) hS
    refine q_eql (i := 19) rfl rfl rfl (by kernel_rfl) rfl rfl (fun _ => ?_) hS
    refine q_mv (i := 20) (.int _ _) rfl rfl rfl (by kernel_rfl) rfl (fun _ => ?_) hS
    refine q_mv (i := 21) (.slice _ _ _) rfl rfl rfl (by kernel_rfl) rfl (fun _ => ?_) hS
    refine q_len (i := 22) rfl rfl rfl (by kernel_rfl) Try.underlying28 rfl (fun _ => ?_) hS
    refine q_eql (i := 23) rfl rfl rfl (by kernel_rfl) rfl rfl (fun _ => ?_) hS
    refine XH_stepd (i := 9) rfl rfl rfl rfl (by kernel_rfl) hS (m_call Try.call60 (sector_ok (hlog.no hN) (by show T.used + j ≤ 8192; omega)) rfl ?_)
    rintro _ w3 ⟨rfl, hc3⟩
    replace hS := At.keep hS hc3 (fun x => x)
    replace hN := Chg.trans hN hc3
    have hrow4 := (hrr.1.keepNo hN).cut (lo := 40 * j) (hi := min (40 * j + 40) L) (mx := cp) (by omega) (by omega) (by omega)
    refine XH_stepd (i := 24) rfl rfl rfl rfl (by kernel_rfl) hS (m_call Try.call61 (piece_ok (part := chunk rec j) (by rw [chunk, u8s_drop, u8s_take, hrl]; exact hrow4) (by omega)) rfl ?_)
    rintro _ w4 ⟨⟨a4, c4, rfl, ho4⟩, hc4⟩
    replace hS := At.keep hS hc4 (fun x => x)
    replace hN := Chg.trans hN hc4
    have hlog4 := hlog.no hN
    have hpe : pieceB (T.next : Int) (chunk rec j) (decide (((40 * j : Nat) : Int) = 0)) (decide (((min (40 * j + 40) L : Nat) : Int) = (L : Int))) = recPiece T.next rec j := by unfold recPiece; rw [hrl]; congr 1 <;> (rw [decide_eq_decide]; omega)
    have hlen4 : (recPiece T.next rec j).length = 64 := pieceB_len (by rw [chunk_len]; omega)
    rw [hpe, hlen4] at ho4
    rw [hpe, hlen4]
    refine XH_stepd (i := 25) rfl rfl rfl rfl (by kernel_rfl) hS (m_call Try.call59 (Write_ok (i := secN T (T.used + j)) hlog4.pl h.c0 (by rw [hlog4.sz]; exact secN_lt hlog4.pos) (Row.of_own ho4) hlen4 (pieceB_ok (fun x hx => hok x (List.mem_of_mem_take (List.mem_of_mem_drop hx))))) rfl ?_)
    rintro _ w5 ⟨rfl, γ5, he5, hp5⟩
    replace hS := At.keep hS he5.chg (by rw [hlog4.gq]; exact fun x => h.cd x.symm)
    have hlog5 := hlog4.plate he5 hp5 rfl
    refine q_as (i := 26) (.int _ _) rfl rfl rfl (by kernel_rfl) rfl (fun _ => ?_) hS
    refine XH_done (by kernel_rfl) hS ?_
    refine thenX_normal ?_
    refine XC_seq rfl ?_
    refine XC_region rfl ?_
    refine o_mv (.int _ _) rfl rfl rfl rfl ?_
    refine o_neq rfl rfl rfl rfl rfl ?_
    refine XO_end rfl ?_
    refine thenX_normal ?_
    refine XC_cond_false rfl rfl ?_
    have hq5 : At w5 q (.cells (walK p T.size T.number T.life T.place T.first T.next (T.used + j)) 104 (0, 0)) := hlog5.wa
    refine XC_skip rfl ?_
    refine thenX_normal ?_
    refine XC_region rfl ?_
    refine o_mv (.pointer _) rfl rfl rfl rfl ?_
    refine o_nilc rfl rfl rfl rfl ?_
    refine o_fa0 7 rfl rfl rfl Try.underlying104 rfl Try.sizeOf3 rfl rfl rfl ?_
    refine o_ldB (.int _ _) rfl rfl rfl Try.isAgg3 rfl (by assumption) rfl ?_
    refine o_add _ rfl rfl rfl rfl rfl (in64 (by omega) (by omega)) ?_
    refine o_nilc rfl rfl rfl rfl ?_
    refine o_fa0 7 rfl rfl rfl Try.underlying104 rfl Try.sizeOf3 rfl rfl rfl ?_
    refine XO_stepn rfl rfl rfl (m_st (.int _ _) Try.sizeOf3 rfl rfl rfl (by assumption) (by first | decide | (simp; done) | omega | (simp; omega)) ?_)
    intro w6 hc6 hs6 hB6
    refine XO_end rfl ?_
    refine inBlockX_normal ?_
    refine thenX_normal ?_
    obtain ⟨he6, hp6⟩ := hlog5.own hc6
    have hlog6 : Log γ5 c d w6 q p { T with used := T.used + (j + 1) } (putRec T S rec (j + 1)) := { hlog5 with pl := hp6, wa := by simpa [walC, walK, Int.add_assoc] using hB6, used := by show T.used + (j + 1) ≤ T.size; omega }
    have he06 := ((he.trans (Ext.ofNo hN)).trans (he5.mono (fun _ x => .inl x))).trans he6
    refine XC_region rfl ?_
    refine o_mv (.int _ _) rfl rfl rfl rfl ?_
    refine o_add _ rfl rfl rfl rfl rfl (in64 (by omega) (by omega)) ?_
    refine o_as (.int _ _) rfl rfl rfl rfl ?_
    refine XO_end rfl ?_
    refine thenX_normal ?_
    exact ⟨needN L - (j + 1), [(0, .pointer (some ⟨q, 0, none⟩)), (1, .slice a L cp), (6, .int .i64 (((40 * j : Nat) : Int) + 40))], by omega, Agrees.cons rfl (Agrees.cons rfl (Agrees.cons rfl (Agrees.nil _))), ⟨j + 1, γ5, by rw [show ((40 * (j + 1) : Nat) : Int) = ((40 * j : Nat) : Int) + 40 by omega], by omega, rfl, he06, hlog6⟩⟩
  · try simp only [decide_eq_true_eq, decide_eq_false_iff_not, Int.not_lt, Int.not_le, ne_eq, Decidable.not_not, gt_iff_lt, ge_iff_le] at hlt
    obtain rfl : j = needN L := by omega
    have hq : At wr q (.cells (walK p T.size T.number T.life T.place T.first T.next (T.used + needN L)) 104 (0, 0)) := hlog.wa
    refine XC_exit rfl ?_
    refine thenX_exit ?_
    refine thenX_exit ?_
    refine inBlockX_here ?_
    refine thenX_normal ?_
    refine XC_seq rfl ?_
    refine XC_region rfl ?_
    refine o_mv (.pointer _) rfl rfl rfl rfl ?_
    refine o_nilc rfl rfl rfl rfl ?_
    refine o_fa0 6 rfl rfl rfl Try.underlying104 rfl Try.sizeOf3 rfl rfl rfl ?_
    refine o_ldB (.int _ _) rfl rfl rfl Try.isAgg3 rfl (by assumption) rfl ?_
    refine o_add _ rfl rfl rfl rfl rfl (in64 (by omega) (by omega)) ?_
    refine o_nilc rfl rfl rfl rfl ?_
    refine o_fa0 6 rfl rfl rfl Try.underlying104 rfl Try.sizeOf3 rfl rfl rfl ?_
    refine XO_stepn rfl rfl rfl (m_st (.int _ _) Try.sizeOf3 rfl rfl rfl (by assumption) (by first | decide | (simp; done) | omega | (simp; omega)) ?_)
    intro w7 hc7 hs7 hB7
    refine XO_end rfl ?_
    refine thenX_normal ?_
    obtain ⟨he7, hp7⟩ := hlog.own hc7
    have hlog7 : Log γr c d w7 q p { T with used := T.used + needN L, next := T.next + 1 } (putRec T S rec (needN L)) := { hlog with pl := hp7, wa := by simpa [walC, walK, Int.add_assoc] using hB7, next := by show T.next + 1 ≤ 1152921504606846977; omega }
    refine XC_seq rfl ?_
    refine XC_region rfl ?_
    refine o_mv (.pointer _) rfl rfl rfl rfl ?_
    refine o_nilc rfl rfl rfl rfl ?_
    refine o_fa0 6 rfl rfl rfl Try.underlying104 rfl Try.sizeOf3 rfl rfl rfl ?_
    refine o_ldB (.int _ _) rfl rfl rfl Try.isAgg3 rfl (by assumption) rfl ?_
    refine o_sub _ rfl rfl rfl rfl rfl (in64 (by omega) (by omega)) ?_
    refine o_as (.int _ _) rfl rfl rfl rfl ?_
    refine o_as (.int _ _) rfl rfl rfl rfl ?_
    refine XO_end rfl ?_
    refine thenX_normal ?_
    refine XC_ret rfl ?_
    refine topX_ret ?_
    refine RetV_of (.tuple #[.int _ _, .int _ _]) rfl ?_
    exact ⟨by rw [Int.add_sub_cancel], γr, he.trans he7, hlog7⟩
end
end Go.Proofs.Ytijjnlfmlcbfpaa

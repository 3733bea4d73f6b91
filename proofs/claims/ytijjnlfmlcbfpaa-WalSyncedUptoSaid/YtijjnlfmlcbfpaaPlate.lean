/- The program's plate: what it is in memory (blocks bear colours: 0 what nobody writes any more, another number what an object may write), and the contracts of making and reading one. -/
import Derived.Test.YtijjnlfmlcbfpaaLibC
set_option linter.unusedVariables false
set_option maxRecDepth 4000
namespace Go.Proofs.Ytijjnlfmlcbfpaa
open Go

/-! ## Colours -/

/-- Only blocks of the colours C have changed; old blocks keep their colours. -/
structure Ext (γ γ' : Nat → Nat) (C : Nat → Prop) (w w' : World) : Prop where
  chg : Chg (fun k => C (γ k)) w w'
  col : ∀ k, k < w.heap.size → γ' k = γ k

theorem Ext.refl (γ : Nat → Nat) (C : Nat → Prop) (w : World) : Ext γ γ C w w := ⟨Chg.refl _ _, fun _ _ => rfl⟩
theorem Ext.trans {γ γ' γ'' : Nat → Nat} {C : Nat → Prop} {a b c : World} (h : Ext γ γ' C a b) (k : Ext γ' γ'' C b c) : Ext γ γ'' C a c :=
  ⟨h.chg.then k.chg (fun _ _ x => x) (fun i hi x => by rw [h.col i hi] at x; exact x), fun i hi => (k.col i (Nat.lt_of_lt_of_le hi h.chg.size)).trans (h.col i hi)⟩
theorem Ext.mono {γ γ' : Nat → Nat} {C C' : Nat → Prop} {a b : World} (h : Ext γ γ' C a b) (hc : ∀ n, C n → C' n) : Ext γ γ' C' a b := ⟨h.chg.mono fun _ _ x => hc _ x, h.col⟩
theorem Ext.ofNo {γ : Nat → Nat} {C : Nat → Prop} {w w' : World} (h : Chg No w w') : Ext γ γ C w w' := ⟨h.mono fun _ _ x => x.elim, fun _ _ => rfl⟩

/-- The colours behind a step: what is new and of M has colour c, what is new besides has none. -/
noncomputable def recol (γ : Nat → Nat) (n : Nat) (M : Nat → Prop) (c : Nat) : Nat → Nat := fun k =>
  @ite Nat (k < n) (Classical.propDecidable _) (γ k) (@ite Nat (M k) (Classical.propDecidable _) c 0)
theorem recol_old {γ : Nat → Nat} {n : Nat} {M : Nat → Prop} {c k : Nat} (h : k < n) : recol γ n M c k = γ k := by unfold recol; rw [if_pos h]
theorem recol_in {γ : Nat → Nat} {n : Nat} {M : Nat → Prop} {c k : Nat} (h : n ≤ k) (hm : M k) : recol γ n M c k = c := by unfold recol; rw [if_neg (by omega), if_pos hm]
theorem recol_out {γ : Nat → Nat} {n : Nat} {M : Nat → Prop} {c k : Nat} (h : n ≤ k) (hm : ¬ M k) : recol γ n M c k = 0 := by unfold recol; rw [if_neg (by omega), if_neg hm]
theorem Ext.recol {γ : Nat → Nat} {C M : Nat → Prop} {c : Nat} {w w' : World} (h : Chg (fun k => C (γ k)) w w') : Ext γ (recol γ w.heap.size M c) C w w' := ⟨h, fun _ hk => recol_old hk⟩

/-! ## A sector: sixty-four bytes that nobody writes any more -/

def SecAt (γ : Nat → Nat) (w : World) (u : Value) (bs : Byt) : Prop :=
  ∃ a cp, u = .slice a 64 cp ∧ bs.length = 64 ∧ 64 ≤ cp ∧ Okb bs ∧ Row w a 64 (u8s bs) ∧ ∀ k, isBlk a k → γ k = 0
theorem Row.blk_lt {w : World} {a : Option Addr} {l : Nat} {xs : List Value} (h : Row w a l xs) (hl : 0 < l) {k : Nat} (hk : isBlk a k) : k < w.heap.size := by
  obtain ⟨b, o, v, rfl, _, hc⟩ := h.at_ hl
  obtain ⟨ad, he, rfl⟩ := hk
  injection he with he; subst he
  exact World.block_lt_of_cell? w _ hc
theorem SecAt.ext {γ γ' : Nat → Nat} {C : Nat → Prop} {w w' : World} {u : Value} {bs : Byt} (h : SecAt γ w u bs) (e : Ext γ γ' C w w') (hc : ¬ C 0) : SecAt γ' w' u bs := by
  obtain ⟨a, cp, hu, hl, hcp, ho, hr, hk⟩ := h
  exact ⟨a, cp, hu, hl, hcp, ho, hr.keep e.chg (fun _ k hb hm => hc (by rw [hk k hb] at hm; exact hm)), fun k hb => (e.col k (hr.blk_lt (by omega) hb)).trans (hk k hb)⟩
theorem SecAt.one {γ : Nat → Nat} {w : World} {u : Value} {bs : Byt} (h : SecAt γ w u bs) : u.oneCell' = true := by obtain ⟨a, cp, rfl, _⟩ := h; rfl
theorem SecAt.inj {γ : Nat → Nat} {w : World} {u : Value} {x y : Byt} (h : SecAt γ w u x) (h' : SecAt γ w u y) : x = y := by
  obtain ⟨a, cp, rfl, hl, _, _, hr, _⟩ := h
  obtain ⟨a', cp', he, hl', _, _, hr', _⟩ := h'
  injection he with e1 _ _; subst e1
  apply u8s_inj
  apply List.ext_getElem?
  intro j
  rcases Nat.lt_or_ge j 64 with hj | hj
  · obtain ⟨b, o, v, ha, hv, hc⟩ := hr.at_ hj
    obtain ⟨b', o', v', ha', hv', hc'⟩ := hr'.at_ hj
    subst ha; injection ha' with ha'; injection ha' with e1 e2; subst e1; subst e2
    rw [hv, hv', ← hc, ← hc']
  · rw [List.getElem?_eq_none (by rw [u8s_len]; omega), List.getElem?_eq_none (by rw [u8s_len]; omega)]

/-! ## The plate -/

structure PSt where
  all : List Byt
  cache : Int → Option Byt
def PSt.get (S : PSt) (i : Nat) : Byt := (S.cache i).getD (S.all.getD i [])
noncomputable def PSt.write (S : PSt) (i : Nat) (b : Byt) : PSt := { S with cache := fun k => if k = (i : Int) then some b else S.cache k }

def Secs (γ : Nat → Nat) (w : World) (vs : List Value) (bss : List Byt) : Prop := vs.length = bss.length ∧ ∀ (j : Nat) u b, vs[j]? = some u → bss[j]? = some b → SecAt γ w u b
theorem Secs.ext {γ γ' : Nat → Nat} {C : Nat → Prop} {w w' : World} {vs : List Value} {bss : List Byt} (h : Secs γ w vs bss) (e : Ext γ γ' C w w') (hc : ¬ C 0) : Secs γ' w' vs bss := ⟨h.1, fun j u b hu hb => (h.2 j u b hu hb).ext e hc⟩

def CacheR (γ : Nat → Nat) (w : World) (m : IMap) (f : Int → Option Byt) : Prop := ∀ k, (mget m k = none ∧ f k = none) ∨ ∃ u b, mget m k = some u ∧ f k = some b ∧ SecAt γ w u b
theorem CacheR.ext {γ γ' : Nat → Nat} {C : Nat → Prop} {w w' : World} {m : IMap} {f : Int → Option Byt} (h : CacheR γ w m f) (e : Ext γ γ' C w w') (hc : ¬ C 0) : CacheR γ' w' m f := fun k => (h k).imp id fun ⟨u, b, h1, h2, h3⟩ => ⟨u, b, h1, h2, h3.ext e hc⟩

def inRange (n : Nat) (f : Int → Option Byt) : Prop := ∀ k, f k ≠ none → 0 ≤ k ∧ k < n

/-- Which blocks a plate has: its own, the sectors' row, the cache. -/
structure PlRaw (w : World) (p b r cap : Nat) (n : Nat) (vs : List Value) (m : IMap) : Prop where
  hp : At w p (.cells #[.slice (some ⟨b, 0, none⟩) n cap, .map (some r), .int .i64 (n : Int), .bool false] 97 (0, 0))
  hb : ∃ cur, At w b (.cells cur 28 (0, 0)) ∧ cur.size = cap ∧ n ≤ cap ∧ cur.toList.take n = vs
  hm : MapAt w r m

structure PlAt (γ : Nat → Nat) (c : Nat) (w : World) (p : Nat) (S : PSt) : Prop where
  len : 1 ≤ S.all.length ∧ S.all.length ≤ 8192
  rng : inRange S.all.length S.cache
  raw : ∃ b r cap vs m, PlRaw w p b r cap S.all.length vs m ∧ γ p = c ∧ γ b = c ∧ γ r = c ∧ Secs γ w vs S.all ∧ CacheR γ w m S.cache

theorem PlRaw.keep {w w' : World} {M : Nat → Prop} {p b r cap n : Nat} {vs : List Value} {m : IMap} (h : PlRaw w p b r cap n vs m) (c : Chg M w w') (h1 : ¬ M p) (h2 : ¬ M b) (h3 : ¬ M r) : PlRaw w' p b r cap n vs m :=
  ⟨h.hp.keep c h1, let ⟨cur, a, r⟩ := h.hb; ⟨cur, a.keep c h2, r⟩, h.hm.keep c h3⟩
theorem PlRaw.lt {w : World} {p b r cap n : Nat} {vs : List Value} {m : IMap} (h : PlRaw w p b r cap n vs m) : p < w.heap.size ∧ b < w.heap.size ∧ r < w.heap.size := ⟨h.hp.lt, let ⟨_, a, _⟩ := h.hb; a.lt, h.hm.lt⟩
theorem PlRaw.ne {w : World} {p b r cap n : Nat} {vs : List Value} {m : IMap} (h : PlRaw w p b r cap n vs m) : p ≠ b ∧ p ≠ r ∧ b ≠ r := by
  obtain ⟨cur, hb, _⟩ := h.hb
  obtain ⟨es, cl, hm, _⟩ := h.hm
  refine ⟨fun e => ?_, fun e => ?_, fun e => ?_⟩
  · subst e; have := h.hp.inj hb; injection this with _ e _; exact absurd e (by decide)
  · subst e; have := h.hp.inj hm; cases this
  · subst e; have := hb.inj hm; cases this
theorem PlRaw.row {w : World} {p b r cap n : Nat} {vs : List Value} {m : IMap} (h : PlRaw w p b r cap n vs m) : Row w (some ⟨b, 0, none⟩) n vs := by
  obtain ⟨cur, hb, hs, hn, ht⟩ := h.hb
  refine Row.of_at hb (by rw [← ht]; simp; omega) fun j v hj => ?_
  rw [← ht, List.getElem?_take] at hj
  split at hj
  · simpa using hj
  · cases hj

theorem PlAt.ext {γ γ' : Nat → Nat} {C : Nat → Prop} {c : Nat} {w w' : World} {p : Nat} {S : PSt} (h : PlAt γ c w p S) (e : Ext γ γ' C w w') (h0 : ¬ C 0) (hc : ¬ C c) : PlAt γ' c w' p S := by
  obtain ⟨hl, hr, b, r, cap, vs, m, hraw, g1, g2, g3, hs, hcr⟩ := h
  have hlt := hraw.lt
  exact ⟨hl, hr, b, r, cap, vs, m, hraw.keep e.chg (by rw [g1]; exact hc) (by rw [g2]; exact hc) (by rw [g3]; exact hc), (e.col _ hlt.1).trans g1, (e.col _ hlt.2.1).trans g2, (e.col _ hlt.2.2).trans g3, hs.ext e h0, hcr.ext e h0⟩

theorem state_raw {w : World} {p : Nat} {x y : Value} {n : Int} (hB : At w p (.cells #[x, y, .int .i64 n, .bool false] 97 (0, 0))) (h0 : n ≠ 0) :
    Ret Try.prog 63 #[.pointer (some ⟨p, 0, none⟩)] w fun v w' => v = .int .i64 0 ∧ w = w' := by
  refine Ret_of_X 18 Try.func63 rfl Try.ntmps63 rfl rfl ?_
  refine XC_seq rfl ?_
  refine XC_region rfl ?_
  refine o_as (.int _ _) rfl rfl rfl rfl ?_
  refine XO_end rfl ?_
  refine thenX_normal ?_
  refine XC_seq rfl ?_
  refine XC_block (id := 0) rfl ?_
  refine XC_seq rfl ?_
  refine XC_region rfl ?_
  refine o_mv (.pointer _) rfl rfl rfl rfl ?_
  refine o_eqp rfl rfl rfl Try.underlying24 rfl rfl ?_
  refine o_mv (.bool _) rfl rfl rfl rfl ?_
  refine XO_bool 6 rfl (fun hb => ?_) (fun hb => ?_)
  · exfalso; cases hb
  refine o_mv (.pointer _) rfl rfl rfl rfl ?_
  refine o_nilc rfl rfl rfl rfl ?_
  refine o_fa0 2 rfl rfl rfl Try.underlying97 rfl Try.sizeOf3 rfl rfl rfl ?_
  refine o_ldB (.int _ _) rfl rfl rfl Try.isAgg3 rfl (by assumption) rfl ?_
  refine o_eql rfl rfl rfl rfl rfl ?_
  refine o_pick0 (.bool _) rfl rfl rfl rfl rfl ?_
  refine o_as (.bool _) rfl rfl rfl rfl ?_
  refine XO_end rfl ?_
  refine thenX_normal ?_
  refine XC_cond rfl rfl (fun hb => ?_) (fun hb => ?_)
  · exfalso; simp_all
  refine XC_seq rfl ?_
  refine XC_region rfl ?_
  refine o_mv (.pointer _) rfl rfl rfl rfl ?_
  refine o_nilc rfl rfl rfl rfl ?_
  refine o_fa0 3 rfl rfl rfl Try.underlying97 rfl Try.sizeOf4 rfl rfl rfl ?_
  refine o_ldB (.bool _) rfl rfl rfl Try.isAgg4 rfl (by assumption) rfl ?_
  refine o_as (.bool _) rfl rfl rfl rfl ?_
  refine XO_end rfl ?_
  refine thenX_normal ?_
  refine XC_cond_false rfl rfl ?_
  refine XC_skip rfl ?_
  refine inBlockX_normal ?_
  refine thenX_normal ?_
  refine XC_seq rfl ?_
  refine XC_region rfl ?_
  refine o_as (.int _ _) rfl rfl rfl rfl ?_
  refine XO_end rfl ?_
  refine thenX_normal ?_
  refine XC_ret rfl ?_
  refine topX_ret ?_
  refine RetV_of (.int _ _) rfl ?_
  exact ⟨rfl, rfl⟩

theorem has_ok {w : World} {b T l c : Nat} {a : Option Addr} {i : Int} {cs : Array Value} {z : Nat × Nat} (hB : At w b (.cells cs T z)) (hc : cs.toList[0]? = some (.slice a l c)) :
    Ret Try.prog 99 #[.pointer (some ⟨b, 0, none⟩), .int .i64 i] w fun v w' => v = .bool (decide (0 ≤ i ∧ i < l)) ∧ w = w' := by
  refine Ret_of_X 16 Try.func99 rfl Try.ntmps99 rfl rfl ?_
  refine XC_seq rfl ?_
  refine XC_region rfl ?_
  refine o_as (.bool _) rfl rfl rfl rfl ?_
  refine XO_end rfl ?_
  refine thenX_normal ?_
  refine XC_seq rfl ?_
  refine XC_region rfl ?_
  refine o_mv (.int _ _) rfl rfl rfl rfl ?_
  refine o_geq rfl rfl rfl rfl rfl ?_
  refine o_mv (.bool _) rfl rfl rfl rfl ?_
  refine XO_bool 7 rfl (fun hb => ?_) (fun hb => ?_)
  · try simp only [decide_eq_true_eq, decide_eq_false_iff_not, Int.not_lt, Int.not_le, ne_eq, Decidable.not_not, gt_iff_lt, ge_iff_le] at hb
    refine o_mv (.int _ _) rfl rfl rfl rfl ?_
    refine o_mv (.pointer _) rfl rfl rfl rfl ?_
    refine o_nilc rfl rfl rfl rfl ?_
    refine o_fa0 0 rfl rfl rfl Try.underlying94 rfl Try.sizeOf22 rfl rfl rfl ?_
    refine o_ld (.slice _ _ _) rfl rfl rfl Try.isAgg22 rfl (by rw [hB.cell]; simpa using hc) ?_
    refine o_len rfl rfl rfl Try.underlying22 rfl ?_
    refine o_lss rfl rfl rfl rfl rfl ?_
    refine o_pick1 (.bool _) rfl rfl rfl rfl rfl ?_
    refine o_as (.bool _) rfl rfl rfl rfl ?_
    refine XO_end rfl ?_
    refine thenX_normal ?_
    refine XC_ret rfl ?_
    refine topX_ret ?_
    refine RetV_of (.bool _) rfl ?_
    exact ⟨by simp [hb], rfl⟩
  · try simp only [decide_eq_true_eq, decide_eq_false_iff_not, Int.not_lt, Int.not_le, ne_eq, Decidable.not_not, gt_iff_lt, ge_iff_le] at hb
    refine XO_barred rfl rfl rfl rfl ?_
    refine XO_barred rfl rfl rfl rfl ?_
    refine XO_barred rfl rfl rfl rfl ?_
    refine XO_barred rfl rfl rfl rfl ?_
    refine XO_barred rfl rfl rfl rfl ?_
    refine XO_barred rfl rfl rfl rfl ?_
    refine XO_barred rfl rfl rfl rfl ?_
    refine o_pick0 (.bool _) rfl rfl rfl rfl rfl ?_
    refine o_as (.bool _) rfl rfl rfl rfl ?_
    refine XO_end rfl ?_
    refine thenX_normal ?_
    refine XC_ret rfl ?_
    refine topX_ret ?_
    refine RetV_of (.bool _) rfl ?_
    exact ⟨by simp; omega, rfl⟩

theorem Sectors_ok {γ : Nat → Nat} {c : Nat} {w : World} {p : Nat} {S : PSt} (h : PlAt γ c w p S) : Ret Try.prog 11 #[.pointer (some ⟨p, 0, none⟩)] w fun v w' => v = .int .i64 (S.all.length : Int) ∧ w = w' := by
  obtain ⟨hl, hr, b, r, cap, vs, m, hraw, g1, g2, g3, hs, hcr⟩ := h
  have hp := hraw.hp
  refine Ret_of_X 9 Try.func11 rfl Try.ntmps11 rfl rfl ?_
  refine XC_seq rfl ?_
  refine XC_region rfl ?_
  refine o_as (.int _ _) rfl rfl rfl rfl ?_
  refine XO_end rfl ?_
  refine thenX_normal ?_
  refine XC_seq rfl ?_
  refine XC_seq rfl ?_
  refine XC_region rfl ?_
  refine o_mv (.pointer _) rfl rfl rfl rfl ?_
  refine o_eqp rfl rfl rfl Try.underlying24 rfl rfl ?_
  refine XO_end rfl ?_
  refine thenX_normal ?_
  refine XC_cond_false rfl rfl ?_
  refine XC_skip rfl ?_
  refine thenX_normal ?_
  refine XC_seq rfl ?_
  refine XC_region rfl ?_
  refine o_mv (.pointer _) rfl rfl rfl rfl ?_
  refine o_nilc rfl rfl rfl rfl ?_
  refine o_fa0 2 rfl rfl rfl Try.underlying97 rfl Try.sizeOf3 rfl rfl rfl ?_
  refine o_ldB (.int _ _) rfl rfl rfl Try.isAgg3 rfl (by assumption) rfl ?_
  refine o_as (.int _ _) rfl rfl rfl rfl ?_
  refine XO_end rfl ?_
  refine thenX_normal ?_
  refine XC_ret rfl ?_
  refine topX_ret ?_
  refine RetV_of (.int _ _) rfl ?_
  exact ⟨rfl, rfl⟩
theorem Failed_ok {γ : Nat → Nat} {c : Nat} {w : World} {p : Nat} {S : PSt} (h : PlAt γ c w p S) : Ret Try.prog 65 #[.pointer (some ⟨p, 0, none⟩)] w fun v w' => v = .bool false ∧ w = w' := by
  obtain ⟨hl, hr, b, r, cap, vs, m, hraw, g1, g2, g3, hs, hcr⟩ := h
  have hp := hraw.hp
  refine Ret_of_X 11 Try.func65 rfl Try.ntmps65 rfl rfl ?_
  refine XC_seq rfl ?_
  refine XC_region rfl ?_
  refine o_as (.bool _) rfl rfl rfl rfl ?_
  refine XO_end rfl ?_
  refine thenX_normal ?_
  refine XC_seq rfl ?_
  refine XC_region rfl ?_
  refine o_mv (.pointer _) rfl rfl rfl rfl ?_
  refine o_nep rfl rfl rfl Try.underlying24 rfl rfl ?_
  refine o_mv (.bool _) rfl rfl rfl rfl ?_
  refine o_mv (.pointer _) rfl rfl rfl rfl ?_
  refine o_nilc rfl rfl rfl rfl ?_
  refine o_fa0 3 rfl rfl rfl Try.underlying97 rfl Try.sizeOf4 rfl rfl rfl ?_
  refine o_ldB (.bool _) rfl rfl rfl Try.isAgg4 rfl (by assumption) rfl ?_
  refine o_pick1 (.bool _) rfl rfl rfl rfl rfl ?_
  refine o_as (.bool _) rfl rfl rfl rfl ?_
  refine XO_end rfl ?_
  refine thenX_normal ?_
  refine XC_ret rfl ?_
  refine topX_ret ?_
  refine RetV_of (.bool _) rfl ?_
  exact ⟨rfl, rfl⟩

/-- What a read answers: fresh bytes. -/
theorem Read_ok {γ : Nat → Nat} {c : Nat} {w : World} {p : Nat} {S : PSt} {i : Nat} (h : PlAt γ c w p S) (hi : i < S.all.length) :
    Ret Try.prog 66 #[.pointer (some ⟨p, 0, none⟩), .int .i64 (i : Int)] w fun v w' => ∃ a cp, v = .tuple #[.slice a 64 cp, .int .i64 0] ∧ w'.ownsRow w.heap.size 5 1 (.slice a 64 cp) 64 (u8s (S.get i)) ∧ Chg No w w' ∧ (S.get i).length = 64 ∧ Okb (S.get i) := by
  obtain ⟨hl, hr, b, r, cap, vs, m, hraw, g1, g2, g3, hs, hcr⟩ := h
  have hp := hraw.hp
  rcases hcr (i : Int) with ⟨hm0, hf0⟩ | ⟨u, bs, hm1, hf1, hsec⟩
  · have hg : S.get i = S.all[i] := by simp [PSt.get, hf0, List.getD, List.getElem?_eq_getElem hi]
    have hvi : i < vs.length := by rw [hs.1]; exact hi
    obtain ⟨a, cp, hu, hl64, hcp, hok, hrow, hk⟩ := hs.2 i vs[i] S.all[i] (List.getElem?_eq_getElem hvi) (List.getElem?_eq_getElem hi)
    have hrow0 := hraw.row
    have hcell := hrow0.cell (List.getElem?_eq_getElem hvi)
    rw [hu] at hcell
    refine Ret_of_X 41 Try.func66 rfl Try.ntmps66 rfl rfl ?_
    refine XC_seq rfl ?_
    refine XC_region rfl ?_
    refine o_as (.slice _ _ _) rfl rfl rfl rfl ?_
    refine o_as (.int _ _) rfl rfl rfl rfl ?_
    refine XO_end rfl ?_
    refine thenX_normal ?_
    refine XC_seq rfl ?_
    refine XC_seq rfl ?_
    refine XC_region rfl ?_
    refine o_mv (.pointer _) rfl rfl rfl rfl ?_
    refine XO_stepd rfl rfl rfl rfl (m_call Try.call63 (state_raw hp (by omega)) rfl ?_)
    rintro _ _ ⟨rfl, rfl⟩
    refine o_as (.int _ _) rfl rfl rfl rfl ?_
    refine XO_end rfl ?_
    refine thenX_normal ?_
    refine XC_seq rfl ?_
    refine XC_region rfl ?_
    refine o_mv (.int _ _) rfl rfl rfl rfl ?_
    refine o_neq rfl rfl rfl rfl rfl ?_
    refine XO_end rfl ?_
    refine thenX_normal ?_
    refine XC_cond rfl rfl (fun hb => ?_) (fun hb => ?_)
    · exfalso; simp at hb
    refine XC_skip rfl ?_
    refine thenX_normal ?_
    refine XC_seq rfl ?_
    refine XC_seq rfl ?_
    refine XC_region rfl ?_
    refine o_mv (.pointer _) rfl rfl rfl rfl ?_
    refine o_nilc rfl rfl rfl rfl ?_
    refine o_fa0 0 rfl rfl rfl Try.underlying97 rfl Try.sizeOf94 rfl rfl rfl ?_
    refine o_mv (.int _ _) rfl rfl rfl rfl ?_
    refine XO_stepd rfl rfl rfl rfl (m_call Try.call99 (has_ok hp rfl) rfl ?_)
    rintro _ _ ⟨rfl, rfl⟩
    refine o_not rfl rfl rfl rfl ?_
    refine XO_end rfl ?_
    refine thenX_normal ?_
    refine XC_cond rfl rfl (fun hb => ?_) (fun hb => ?_)
    · exfalso; simp at hb <;> omega
    refine XC_skip rfl ?_
    refine thenX_normal ?_
    refine XC_seq rfl ?_
    refine XC_seq rfl ?_
    refine XC_region rfl ?_
    refine o_mv (.pointer _) rfl rfl rfl rfl ?_
    refine o_nilc rfl rfl rfl rfl ?_
    refine o_fa0 1 rfl rfl rfl Try.underlying97 rfl Try.sizeOf95 rfl rfl rfl ?_
    refine o_ldB (.map _) rfl rfl rfl Try.isAgg95 rfl (by assumption) rfl ?_
    refine o_mv (.int _ _) rfl rfl rfl rfl ?_
    refine o_lkok (none) rfl rfl rfl Try.underlying95 Try.underlying3 Try.zeroValue28 rfl rfl (hraw.hm) (hm0) ?_
    refine o_mv (.tuple _) rfl rfl rfl rfl ?_
    refine o_ext (.slice _ _ _) rfl rfl rfl rfl rfl ?_
    refine o_ext (.bool _) rfl rfl rfl rfl rfl ?_
    refine o_as (.slice _ _ _) rfl rfl rfl rfl ?_
    refine o_as (.bool _) rfl rfl rfl rfl ?_
    refine XO_end rfl ?_
    refine thenX_normal ?_
    refine XC_seq rfl ?_
    refine XC_region rfl ?_
    refine o_mv (.bool _) rfl rfl rfl rfl ?_
    refine XO_end rfl ?_
    refine thenX_normal ?_
    refine XC_cond_false rfl rfl ?_
    refine XC_skip rfl ?_
    refine thenX_normal ?_
    refine XC_seq rfl ?_
    refine XC_region rfl ?_
    refine o_mv (.pointer _) rfl rfl rfl rfl ?_
    refine o_nilc rfl rfl rfl rfl ?_
    refine o_fa0 0 rfl rfl rfl Try.underlying97 rfl Try.sizeOf94 rfl rfl rfl ?_
    refine o_fa0 0 rfl rfl rfl Try.underlying94 rfl Try.sizeOf22 rfl rfl rfl ?_
    refine o_ldB (.slice _ _ _) rfl rfl rfl Try.isAgg22 rfl (by assumption) rfl ?_
    refine o_mv (.int _ _) rfl rfl rfl rfl ?_
    refine o_ia (i) rfl rfl rfl Try.underlying22 Try.sizeOf28 rfl rfl (by first | rfl | omega) (by omega) ?_
    refine o_ld (.slice _ _ _) rfl rfl rfl Try.isAgg28 rfl (hcell) ?_
    refine XO_stepd rfl rfl rfl rfl (m_call Try.call15 (Clone_ok hrow (u8s_one _) (by omega)) rfl ?_)
    rintro _ w1 ⟨a1, c1, rfl, ho, hc, hn⟩
    refine o_as (.slice _ _ _) rfl rfl rfl rfl ?_
    refine o_as (.int _ _) rfl rfl rfl rfl ?_
    refine XO_end rfl ?_
    refine thenX_normal ?_
    refine XC_ret rfl ?_
    refine topX_ret ?_
    refine RetV_of (.tuple #[.slice _ _ _, .int _ _]) rfl ?_
    exact ⟨a1, c1, rfl, by rw [hg]; exact ho, hc, by rw [hg]; exact hl64, by rw [hg]; exact hok⟩
  · have hg : S.get i = bs := by simp [PSt.get, hf1]
    obtain ⟨a, cp, rfl, hl64, hcp, hok, hrow, hk⟩ := hsec
    refine Ret_of_X 41 Try.func66 rfl Try.ntmps66 rfl rfl ?_
    refine XC_seq rfl ?_
    refine XC_region rfl ?_
    refine o_as (.slice _ _ _) rfl rfl rfl rfl ?_
    refine o_as (.int _ _) rfl rfl rfl rfl ?_
    refine XO_end rfl ?_
    refine thenX_normal ?_
    refine XC_seq rfl ?_
    refine XC_seq rfl ?_
    refine XC_region rfl ?_
    refine o_mv (.pointer _) rfl rfl rfl rfl ?_
    refine XO_stepd rfl rfl rfl rfl (m_call Try.call63 (state_raw hp (by omega)) rfl ?_)
    rintro _ _ ⟨rfl, rfl⟩
    refine o_as (.int _ _) rfl rfl rfl rfl ?_
    refine XO_end rfl ?_
    refine thenX_normal ?_
    refine XC_seq rfl ?_
    refine XC_region rfl ?_
    refine o_mv (.int _ _) rfl rfl rfl rfl ?_
    refine o_neq rfl rfl rfl rfl rfl ?_
    refine XO_end rfl ?_
    refine thenX_normal ?_
    refine XC_cond rfl rfl (fun hb => ?_) (fun hb => ?_)
    · exfalso; simp at hb
    refine XC_skip rfl ?_
    refine thenX_normal ?_
    refine XC_seq rfl ?_
    refine XC_seq rfl ?_
    refine XC_region rfl ?_
    refine o_mv (.pointer _) rfl rfl rfl rfl ?_
    refine o_nilc rfl rfl rfl rfl ?_
    refine o_fa0 0 rfl rfl rfl Try.underlying97 rfl Try.sizeOf94 rfl rfl rfl ?_
    refine o_mv (.int _ _) rfl rfl rfl rfl ?_
    refine XO_stepd rfl rfl rfl rfl (m_call Try.call99 (has_ok hp rfl) rfl ?_)
    rintro _ _ ⟨rfl, rfl⟩
    refine o_not rfl rfl rfl rfl ?_
    refine XO_end rfl ?_
    refine thenX_normal ?_
    refine XC_cond rfl rfl (fun hb => ?_) (fun hb => ?_)
    · exfalso; simp at hb <;> omega
    refine XC_skip rfl ?_
    refine thenX_normal ?_
    refine XC_seq rfl ?_
    refine XC_seq rfl ?_
    refine XC_region rfl ?_
    refine o_mv (.pointer _) rfl rfl rfl rfl ?_
    refine o_nilc rfl rfl rfl rfl ?_
    refine o_fa0 1 rfl rfl rfl Try.underlying97 rfl Try.sizeOf95 rfl rfl rfl ?_
    refine o_ldB (.map _) rfl rfl rfl Try.isAgg95 rfl (by assumption) rfl ?_
    refine o_mv (.int _ _) rfl rfl rfl rfl ?_
    refine o_lkok (some (.slice a 64 cp)) rfl rfl rfl Try.underlying95 Try.underlying3 Try.zeroValue28 rfl rfl (hraw.hm) (hm1) ?_
    refine o_mv (.tuple _) rfl rfl rfl rfl ?_
    refine o_ext (.slice _ _ _) rfl rfl rfl rfl rfl ?_
    refine o_ext (.bool _) rfl rfl rfl rfl rfl ?_
    refine o_as (.slice _ _ _) rfl rfl rfl rfl ?_
    refine o_as (.bool _) rfl rfl rfl rfl ?_
    refine XO_end rfl ?_
    refine thenX_normal ?_
    refine XC_seq rfl ?_
    refine XC_region rfl ?_
    refine o_mv (.bool _) rfl rfl rfl rfl ?_
    refine XO_end rfl ?_
    refine thenX_normal ?_
    refine XC_cond_true rfl rfl ?_
    refine XC_seq rfl ?_
    refine XC_region rfl ?_
    refine o_mv (.slice _ _ _) rfl rfl rfl rfl ?_
    refine XO_stepd rfl rfl rfl rfl (m_call Try.call15 (Clone_ok hrow (u8s_one _) (by omega)) rfl ?_)
    rintro _ w1 ⟨a1, c1, rfl, ho, hc, hn⟩
    refine o_as (.slice _ _ _) rfl rfl rfl rfl ?_
    refine o_as (.int _ _) rfl rfl rfl rfl ?_
    refine XO_end rfl ?_
    refine thenX_normal ?_
    refine XC_ret rfl ?_
    refine thenX_ret ?_
    refine topX_ret ?_
    refine RetV_of (.tuple #[.slice _ _ _, .int _ _]) rfl ?_
    exact ⟨a1, c1, rfl, by rw [hg]; exact ho, hc, by rw [hg]; exact hl64, by rw [hg]; exact hok⟩
end Go.Proofs.Ytijjnlfmlcbfpaa

/- The program's plate: writing, syncing. -/
import Derived.Test.YtijjnlfmlcbfpaaPlate
set_option linter.unusedVariables false
set_option maxRecDepth 4000
namespace Go.Proofs.Ytijjnlfmlcbfpaa
open Go

theorem SecAt.of_own {γ : Nat → Nat} {w : World} {base cp : Nat} {a : Option Addr} {bs : Byt} (h : w.ownsRow base 5 1 (.slice a 64 cp) 64 (u8s bs)) (hl : bs.length = 64) (ho : Okb bs) (hγ : ∀ k, base ≤ k → k < w.heap.size → γ k = 0) : SecAt γ w (.slice a 64 cp) bs := by
  refine ⟨a, cp, rfl, hl, ?_, ho, Row.of_own h, fun k hk => hγ k (own_blk h k hk).1 (own_blk h k hk).2⟩
  rcases h.2 with ⟨_, h0⟩ | ⟨g, cap, cur, hv, _, _, hle, _⟩
  · omega
  · injection hv with _ _ e; omega

theorem SecAt.of_own_at {γ : Nat → Nat} {w : World} {base cp : Nat} {a : Option Addr} {bs : Byt} (h : w.ownsRow base 5 1 (.slice a 64 cp) 64 (u8s bs)) (hl : bs.length = 64) (ho : Okb bs) (hγ : ∀ k, isBlk a k → γ k = 0) : SecAt γ w (.slice a 64 cp) bs := by
  refine ⟨a, cp, rfl, hl, ?_, ho, Row.of_own h, hγ⟩
  rcases h.2 with ⟨_, h0⟩ | ⟨g, cap, cur, hv, _, _, hle, _⟩
  · omega
  · injection hv with _ _ e; omega

theorem Write_ok {γ : Nat → Nat} {c : Nat} {w : World} {p : Nat} {S : PSt} {i : Nat} {a : Option Addr} {cp : Nat} {bs : Byt} (h : PlAt γ c w p S) (hc0 : c ≠ 0) (hi : i < S.all.length) (hr : Row w a 64 (u8s bs)) (hlen : bs.length = 64) (hok : Okb bs) :
    Ret Try.prog 59 #[.pointer (some ⟨p, 0, none⟩), .int .i64 (i : Int), .slice a 64 cp] w fun v w' => v = .int .i64 0 ∧ ∃ γ', Ext γ γ' (· = c) w w' ∧ PlAt γ' c w' p (S.write i bs) := by
  obtain ⟨hl, hrg, b, r, cap, vs, m, hraw, g1, g2, g3, hs, hcr⟩ := h
  have hp := hraw.hp
  have hne := hraw.ne
  have hlt := hraw.lt
  refine Ret_of_X 31 Try.func59 rfl Try.ntmps59 rfl rfl ?_
  refine XC_seq rfl ?_
  refine XC_region rfl ?_
  refine o_as (.int _ _) rfl rfl rfl rfl ?_
  refine XO_end rfl ?_
  refine thenX_normal ?_
  refine XC_seq rfl ?_
  refine XC_seq rfl ?_
  refine XC_region rfl ?_
  refine o_mv (.pointer _) rfl rfl rfl rfl ?_
  refine XO_stepd rfl rfl rfl rfl (m_call Try.call63 (state_raw hp (by omega)) rfl ?_)
  rintro _ _ ⟨rfl, rfl⟩
  refine o_as (.int _ _) rfl rfl rfl rfl ?_
  refine XO_end rfl ?_
  refine thenX_normal ?_
  refine XC_seq rfl ?_
  refine XC_region rfl ?_
  refine o_mv (.int _ _) rfl rfl rfl rfl ?_
  refine o_neq rfl rfl rfl rfl rfl ?_
  refine XO_end rfl ?_
  refine thenX_normal ?_
  refine XC_cond rfl rfl (fun hb => ?_) (fun hb => ?_)
  · exfalso; simp at hb
  refine XC_skip rfl ?_
  refine thenX_normal ?_
  refine XC_seq rfl ?_
  refine XC_seq rfl ?_
  refine XC_region rfl ?_
  refine o_mv (.pointer _) rfl rfl rfl rfl ?_
  refine o_nilc rfl rfl rfl rfl ?_
  refine o_fa0 0 rfl rfl rfl Try.underlying97 rfl Try.sizeOf94 rfl rfl rfl ?_
  refine o_mv (.int _ _) rfl rfl rfl rfl ?_
  refine XO_stepd rfl rfl rfl rfl (m_call Try.call99 (has_ok hp rfl) rfl ?_)
  rintro _ _ ⟨rfl, rfl⟩
  refine o_not rfl rfl rfl rfl ?_
  refine o_mv (.bool _) rfl rfl rfl rfl ?_
  refine XO_bool 19 rfl (fun hb => ?_) (fun hb => ?_)
  · exfalso; simp at hb <;> omega
  refine o_mv (.slice _ _ _) rfl rfl rfl rfl ?_
  refine o_len rfl rfl rfl Try.underlying28 rfl ?_
  refine o_neq rfl rfl rfl rfl rfl ?_
  refine o_pick0 (.bool _) rfl rfl rfl rfl rfl ?_
  refine XO_end rfl ?_
  refine thenX_normal ?_
  refine XC_cond rfl rfl (fun hb => ?_) (fun hb => ?_)
  · exfalso; simp at hb
  refine XC_skip rfl ?_
  refine thenX_normal ?_
  refine XC_seq rfl ?_
  refine XC_draw (fun w' => At w' p (.cells #[.slice (some ⟨b, 0, none⟩) S.all.length cap, .map (some r), .int .i64 (S.all.length : Int), .bool false] 97 (0, 0))) Trymixed rfl 8 rfl ?_
  intro w1 hc1 hh1
  have hS := hp.keep hc1 (fun h => h)
  refine q_mv (i := 0) (.pointer _) rfl rfl rfl (by kernel_rfl) rfl (fun _ => ?_) hS
  refine q_nilc (i := 1) rfl rfl rfl (by kernel_rfl) rfl (fun _ => ?_) hS
  refine q_fa0 (i := 2) 1 rfl rfl rfl (by kernel_rfl) Try.underlying97 rfl Try.sizeOf95 rfl rfl rfl (fun _ => ?_) hS
  refine q_ldB (i := 3) (.map _) rfl rfl rfl (by kernel_rfl) Try.isAgg95 rfl (fun _ h => h) rfl (fun _ => ?_) hS
  refine q_mv (i := 4) (.int _ _) rfl rfl rfl (by kernel_rfl) rfl (fun _ => ?_) hS
  refine q_mv (i := 5) (.slice _ _ _) rfl rfl rfl (by kernel_rfl) rfl (fun _ => ?_) hS
  refine XH_stepd (i := 6) rfl rfl rfl rfl (by kernel_rfl) hS (m_call Try.call15 (Clone_ok (hr.keepNo hc1) (u8s_one _) (by omega)) rfl ?_)
  rintro _ w2 ⟨a2, c2, rfl, ho2, hc2, hn2⟩
  have hS := hS.keep hc2 (fun h => h)
  refine XH_stepn (i := 7) rfl rfl rfl (by kernel_rfl) hS (m_mup (.slice _ _ _) Try.underlying95 Try.underlying3 rfl rfl rfl (hraw.hm.keep (hc1.trans hc2) (fun h => h)) ?_)
  intro w3 hc3 hs3 hm3
  have hS := hS.keep hc3 hne.2.1
  have hc02 : Chg No w w2 := hc1.trans hc2
  have hch : Chg (fun k => γ k = c) w w3 := hc02.then hc3 (fun _ _ h => h.elim) (fun k _ e => by rw [e]; exact g3)
  have hext : Ext γ (recol γ w.heap.size No 0) (· = c) w w3 := Ext.recol hch
  have ho3 : w3.ownsRow w1.heap.size 5 1 (.slice a2 64 c2) 64 (u8s bs) := own_keep ho2 hc3 (fun k hk e => by have := (ho2.lt k hk).1; have := hc1.size; omega)
  have hsec : SecAt (recol γ w.heap.size No 0) w3 (.slice a2 64 c2) bs := SecAt.of_own ho3 hlen hok (fun k h1 _ => recol_out (by have := hc1.size; omega) (fun h => h))
  refine XH_done (by kernel_rfl) hS ?_
  refine thenX_normal ?_
  refine XC_seq rfl ?_
  refine XC_region rfl ?_
  refine o_as (.int _ _) rfl rfl rfl rfl ?_
  refine XO_end rfl ?_
  refine thenX_normal ?_
  refine XC_ret rfl ?_
  refine topX_ret ?_
  refine RetV_of (.int _ _) rfl ?_
  refine ⟨rfl, _, hext, ⟨hl, ?_, b, r, cap, vs, mset m i (.slice a2 64 c2), ?_, ?_⟩⟩
  · intro k hk
    simp only [PSt.write] at hk
    by_cases e : k = (i : Int)
    · subst e; exact ⟨by omega, by exact_mod_cast hi⟩
    · rw [if_neg e] at hk; exact hrg k hk
  · have hraw2 := hraw.keep hc02 (fun h => h) (fun h => h) (fun h => h)
    exact ⟨hS, let ⟨cur, h1, h2⟩ := hraw2.hb; ⟨cur, h1.keep hc3 hne.2.2, h2⟩, hm3⟩
  · refine ⟨(hext.col _ hlt.1).trans g1, (hext.col _ hlt.2.1).trans g2, (hext.col _ hlt.2.2).trans g3, hs.ext hext (fun e => hc0 e.symm), fun k => ?_⟩
    rw [mget_mset]
    by_cases e : k = (i : Int)
    · refine .inr ⟨_, bs, by rw [if_pos e], by simp [PSt.write, e], hsec⟩
    · rw [if_neg e]; simp only [PSt.write, if_neg e]
      exact hcr.ext hext (fun e => hc0 e.symm) k

noncomputable def PSt.sync (S : PSt) : PSt := { all := S.all.mapIdx fun i b => (S.cache i).getD b, cache := fun _ => none }

/-- What the sectors' row holds when some entries of the cache are still to come. -/
def Half (n : Nat) (vs : List Value) (m left : IMap) (cur : List Value) : Prop := ∀ j : Nat, j < n → cur[j]? = if (mget left j).isSome then vs[j]? else (match mget m j with | some v => some v | none => vs[j]?)

theorem Half.step {n : Nat} {vs : List Value} {m left rest : IMap} {cur : List Value} {k : Int} {v : Value} (h : Half n vs m left cur) (hp : left.Perm ((k, v) :: rest)) (hn : (left.map (·.1)).Nodup) (hm : mget m k = some v) (h0 : 0 ≤ k) (hk : k.toNat < n) (hl : n ≤ cur.length) : Half n vs m rest (cur.set k.toNat v) := by
  intro j hj
  have hpk := fun x => mget_perm hp hn x
  by_cases e : j = k.toNat
  · subst e
    rw [List.getElem?_set_self (by omega)]
    have hn2 : (((k, v) :: rest).map (·.1)).Nodup := (hp.map _).nodup_iff.1 hn
    simp only [List.map_cons, List.nodup_cons] at hn2
    have ek : ((k.toNat : Nat) : Int) = k := by omega
    rw [ek, mget_none.2 hn2.1, hm]; rfl
  · rw [List.getElem?_set_ne (fun e' => e e'.symm), h j hj, hpk j]
    have : ¬ ((j : Int) = k) := by omega
    simp [mget, this]

theorem sync_secs {γ γ' : Nat → Nat} {C : Nat → Prop} {w w' : World} {S : PSt} {vs : List Value} {m : IMap} {cur : Array Value} {cap : Nat} (hs : Secs γ w vs S.all) (hcr : CacheR γ w m S.cache) (e : Ext γ γ' C w w') (hc : ¬ C 0) (hcap : S.all.length ≤ cap) (hsz : cur.size = cap)
    (hfin : ∀ j : Nat, j < S.all.length → cur.toList[j]? = (match mget m j with | some v => some v | none => vs[j]?)) : Secs γ' w' (cur.toList.take S.all.length) S.sync.all := by
  refine ⟨by simp [PSt.sync]; omega, fun j u b hu hb => ?_⟩
  rw [List.getElem?_take] at hu
  split at hu
  · rename_i hj
    rw [hfin j hj] at hu
    have hb' : some ((S.cache (j : Int)).getD (S.all[j]'hj)) = some b := by rw [← hb]; simp [PSt.sync, hj]
    injection hb' with hb'
    rcases hcr (j : Int) with ⟨h1, h2⟩ | ⟨u', bs, h1, h2, h3⟩
    · rw [h1] at hu
      rw [h2] at hb'
      subst hb'
      exact (hs.2 j u _ hu (List.getElem?_eq_getElem hj)).ext e hc
    · rw [h1] at hu
      rw [h2] at hb'
      injection hu with hu
      subst hu; subst hb'
      exact h3.ext e hc
  · cases hu

theorem Sync_ok {γ : Nat → Nat} {c : Nat} {w : World} {p : Nat} {S : PSt} (h : PlAt γ c w p S) (hc0 : c ≠ 0) :
    Ret Try.prog 62 #[.pointer (some ⟨p, 0, none⟩)] w fun v w' => v = .int .i64 0 ∧ ∃ γ', Ext γ γ' (· = c) w w' ∧ PlAt γ' c w' p S.sync := by
  obtain ⟨hl, hrg, b, r, cap, vs, m, hraw, g1, g2, g3, hs, hcr⟩ := h
  have hp := hraw.hp
  have hne := hraw.ne
  have hlt := hraw.lt
  obtain ⟨cur0, hb0, hsz0, hcap, htk0⟩ := hraw.hb
  have hvl : vs.length = S.all.length := hs.1
  refine Ret_of_X 33 Try.func62 rfl Try.ntmps62 rfl rfl ?_
  refine XC_seq rfl ?_
  refine XC_region rfl ?_
  refine o_as (.int _ _) rfl rfl rfl rfl ?_
  refine XO_end rfl ?_
  refine thenX_normal ?_
  refine XC_seq rfl ?_
  refine XC_seq rfl ?_
  refine XC_region rfl ?_
  refine o_mv (.pointer _) rfl rfl rfl rfl ?_
  refine XO_stepd rfl rfl rfl rfl (m_call Try.call63 (state_raw hp (by omega)) rfl ?_)
  rintro _ _ ⟨rfl, rfl⟩
  refine o_as (.int _ _) rfl rfl rfl rfl ?_
  refine XO_end rfl ?_
  refine thenX_normal ?_
  refine XC_seq rfl ?_
  refine XC_region rfl ?_
  refine o_mv (.int _ _) rfl rfl rfl rfl ?_
  refine o_neq rfl rfl rfl rfl rfl ?_
  refine XO_end rfl ?_
  refine thenX_normal ?_
  refine XC_cond rfl rfl (fun hb => ?_) (fun hb => ?_)
  · exfalso; simp at hb
  refine XC_skip rfl ?_
  refine thenX_normal ?_
  refine XC_seq rfl ?_
  refine XC_seq rfl ?_
  refine XC_region rfl ?_
  refine o_mv (.pointer _) rfl rfl rfl rfl ?_
  refine o_nilc rfl rfl rfl rfl ?_
  refine o_fa0 1 rfl rfl rfl Try.underlying97 rfl Try.sizeOf95 rfl rfl rfl ?_
  refine o_ldB (.map _) rfl rfl rfl Try.isAgg95 rfl (by assumption) rfl ?_
  refine XO_stepd rfl rfl rfl rfl (m_rng Try.underlying95 rfl (hraw.hm) ?_)
  intro w1 hc1 hs1 hI1
  refine XO_end rfl ?_
  refine thenX_normal ?_
  have hp1 := hp.keep hc1 (fun h => h)
  have hb1 := hb0.keep hc1 (fun h => h)
  refine XC_block (id := 0) rfl ?_
  refine XC_loop (fun k l w' => ∃ (left : IMap) (cur : Array Value), l = [(0, .pointer (some ⟨p, 0, none⟩)), (15, .pointer (some ⟨w.heap.size, 0, none⟩))] ∧ k = left.length ∧ IterAt w' w.heap.size r m left ∧ At w' p (.cells #[.slice (some ⟨b, 0, none⟩) S.all.length cap, .map (some r), .int .i64 (S.all.length : Int), .bool false] 97 (0, 0)) ∧ At w' b (.cells cur 28 (0, 0)) ∧ cur.size = cap ∧ Half S.all.length vs m left cur.toList ∧ Chg (fun k => γ k = c) w w') rfl (m.length) [(0, .pointer (some ⟨p, 0, none⟩)), (15, .pointer (some ⟨w.heap.size, 0, none⟩))] ?_ ?_ ?_
  · exact Agrees.cons rfl (Agrees.cons rfl (Agrees.nil _))
  · exact ⟨m, cur0, rfl, rfl, hI1, hp1, hb1, hsz0, fun j hj => by cases hmj : mget m j with | none => (simp only [Option.isSome_none, Bool.false_eq_true, if_false]; rw [← htk0, List.getElem?_take, if_pos hj]) | some v => (simp only [Option.isSome_some, if_true]; rw [← htk0, List.getElem?_take, if_pos hj]), hc1.mono (fun _ _ h => h.elim)⟩
  intro k l w2 g ⟨left, cur, hl, hk, hI, hp2, hb2, hsz2, hhalf, hch⟩
  subst hl
  have hch2 := hch.size
  refine XC_seq rfl ?_
  refine XC_region rfl ?_
  refine XO_stepd rfl rfl rfl rfl (m_next rfl (hI) ?_ ?_)
  · intro hnil
    subst hnil
    refine o_ext (.bool _) rfl rfl rfl rfl rfl ?_
    refine XO_end rfl ?_
    refine thenX_normal ?_
    refine XC_seq rfl ?_
    refine XC_cond_false rfl rfl ?_
    refine XC_exit rfl ?_
    refine thenX_exit ?_
    refine thenX_exit ?_
    refine inBlockX_here ?_
    refine thenX_normal ?_
    refine XC_seq rfl ?_
    refine XC_region rfl ?_
    refine o_mv (.pointer _) rfl rfl rfl rfl ?_
    refine o_nilc rfl rfl rfl rfl ?_
    refine o_fa0 1 rfl rfl rfl Try.underlying97 rfl Try.sizeOf95 rfl rfl rfl ?_
    refine o_ldB (.map _) rfl rfl rfl Try.isAgg95 rfl (by assumption) rfl ?_
    refine XO_stepn rfl rfl rfl (m_clear Try.underlying95 rfl (hI.map) ?_)
    intro w5 hc5 hs5 hm5
    refine XO_end rfl ?_
    refine thenX_normal ?_
    have hp5 := hp2.keep hc5 hne.2.1
    have hb5 := hb2.keep hc5 hne.2.2
    have hch5 : Chg (fun k => γ k = c) w w5 := hch.then hc5 (fun _ _ h => h) (fun k _ e => by rw [e]; exact g3)
    have hext : Ext γ (recol γ w.heap.size No 0) (· = c) w w5 := Ext.recol hch5
    have hfin : ∀ j : Nat, j < S.all.length → cur.toList[j]? = (match mget m j with | some v => some v | none => vs[j]?) := fun j hj => by have := hhalf j hj; simpa [mget] using this
    refine XC_seq rfl ?_
    refine XC_region rfl ?_
    refine o_as (.int _ _) rfl rfl rfl rfl ?_
    refine XO_end rfl ?_
    refine thenX_normal ?_
    refine XC_ret rfl ?_
    refine topX_ret ?_
    refine RetV_of (.int _ _) rfl ?_
    refine ⟨rfl, _, hext, ⟨by simpa [PSt.sync] using hl, fun k hk => absurd rfl hk, b, r, cap, cur.toList.take S.all.length, [], ⟨by simpa [PSt.sync] using hp5, ⟨cur, hb5, hsz2, by simpa [PSt.sync] using hcap, by simp [PSt.sync]⟩, hm5⟩, (hext.col _ hlt.1).trans g1, (hext.col _ hlt.2.1).trans g2, (hext.col _ hlt.2.2).trans g3, ?_, fun k => .inl ⟨rfl, rfl⟩⟩⟩; exact sync_secs hs hcr hext (fun e => hc0 e.symm) hcap hsz2 hfin
  · intro kk v rest w4 hperm hc4 hs4 hI4 hL4
    have hnd := hI.nodup
    have hmk : mget m kk = some v := (mget_mem hI.map.nodup).2 (hI.sub.subset (hperm.mem_iff.2 (by simp)))
    obtain ⟨a0, cp0, rfl, bs, hfk⟩ : ∃ a cp, v = .slice a 64 cp ∧ ∃ bs, S.cache kk = some bs := by rcases hcr kk with ⟨h1, _⟩ | ⟨u, bs, h1, h2, h3⟩; (rw [h1] at hmk; cases hmk); (rw [h1] at hmk; injection hmk with e; subst e; obtain ⟨a, cp, e, _⟩ := h3; exact ⟨a, cp, e, bs, h2⟩)
    obtain ⟨hk0, hkn⟩ := hrg kk (by rw [hfk]; simp)
    have hitne : w.heap.size ≠ p ∧ w.heap.size ≠ b ∧ w.heap.size ≠ r := by omega
    have hp4 := hp2.keep hc4 (fun e => hitne.1 e.symm)
    have hb4 := hb2.keep hc4 (fun e => hitne.2.1 e.symm)
    refine o_ext (.bool _) rfl rfl rfl rfl rfl ?_
    refine XO_end rfl ?_
    refine thenX_normal ?_
    refine XC_seq rfl ?_
    refine XC_cond_true rfl rfl ?_
    refine XC_skip rfl ?_
    refine thenX_normal ?_
    refine XC_block (id := 1) rfl ?_
    refine XC_seq rfl ?_
    refine XC_region rfl ?_
    refine o_entry rfl rfl rfl rfl (by assumption) ?_
    refine o_ext (.int _ _) rfl rfl rfl rfl rfl ?_
    refine o_ext (.slice _ _ _) rfl rfl rfl rfl rfl ?_
    refine o_as (.int _ _) rfl rfl rfl rfl ?_
    refine o_as (.slice _ _ _) rfl rfl rfl rfl ?_
    refine XO_end rfl ?_
    refine thenX_normal ?_
    refine XC_region rfl ?_
    refine o_mv (.pointer _) rfl rfl rfl rfl ?_
    refine o_nilc rfl rfl rfl rfl ?_
    refine o_fa0 0 rfl rfl rfl Try.underlying97 rfl Try.sizeOf94 rfl rfl rfl ?_
    refine o_fa0 0 rfl rfl rfl Try.underlying94 rfl Try.sizeOf22 rfl rfl rfl ?_
    refine o_ldB (.slice _ _ _) rfl rfl rfl Try.isAgg22 rfl (by assumption) rfl ?_
    refine o_mv (.int _ _) rfl rfl rfl rfl ?_
    refine o_mv (.slice _ _ _) rfl rfl rfl rfl ?_
    refine o_ia (kk.toNat) rfl rfl rfl Try.underlying22 Try.sizeOf28 rfl rfl (by first | rfl | omega) (by omega) ?_
    refine XO_stepn rfl rfl rfl (m_st (.slice _ _ _) Try.sizeOf28 rfl rfl rfl (by assumption) (by first | decide | (simp; done) | omega) ?_)
    intro w5 hc5 hs5 hb5
    refine XO_end rfl ?_
    refine inBlockX_normal ?_
    refine thenX_normal ?_
    have hlen : left.length = rest.length + 1 := by have := hperm.length_eq; simpa using this
    exact ⟨rest.length, [(0, .pointer (some ⟨p, 0, none⟩)), (15, .pointer (some ⟨w.heap.size, 0, none⟩))], by omega, Agrees.cons rfl (Agrees.cons rfl (Agrees.nil _)), ⟨rest, _, rfl, rfl, hI4.keep hc5 hitne.2.1 (fun e => hne.2.2 e.symm), hp4.keep hc5 hne.1, hb5, by simpa using hsz2, by simpa using hhalf.step hperm hnd hmk hk0 (by omega) (by simp; omega), (hch.then hc4 (fun _ _ h => h) (fun i hi e => by omega)).then hc5 (fun _ _ h => h) (fun i hi e => by rw [e]; exact g2)⟩⟩
end Go.Proofs.Ytijjnlfmlcbfpaa

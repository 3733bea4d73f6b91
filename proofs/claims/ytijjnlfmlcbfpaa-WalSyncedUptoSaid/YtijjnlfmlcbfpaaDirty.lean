/- Which sectors of a plate are not durable. -/
import Derived.Test.YtijjnlfmlcbfpaaShelf
import Derived.Test.YtijjnlfmlcbfpaaCrash
set_option linter.unusedVariables false
set_option maxRecDepth 4000
namespace Go.Proofs.Ytijjnlfmlcbfpaa
open Go Go.Proofs Go.RowKit Go.Maps Go.Sort Go.Shelf Go.WideShapes Go.WideElems

theorem pigeon : ∀ (N : Nat) (l : List Int), l.Nodup → (∀ x ∈ l, 0 ≤ x ∧ x < (N : Int)) → l.length ≤ N
  | 0, l, _, h => by
    cases l with
    | nil => simp
    | cons x r => have := h x (List.mem_cons_self ..); omega
  | N + 1, l, hn, h => by
    by_cases hm : (N : Int) ∈ l
    · have h1 := pigeon N (l.erase (N : Int)) (hn.erase _) (fun x hx => by
        have h2 := h x (List.mem_of_mem_erase hx)
        have h3 : x ≠ (N : Int) := fun e => by subst e; exact (List.Nodup.not_mem_erase hn) hx
        omega)
      rw [List.length_erase_of_mem hm] at h1
      omega
    · have := pigeon N l hn (fun x hx => by
        have h2 := h x hx
        have h3 : x ≠ (N : Int) := fun e => by subst e; exact hm hx
        omega)
      omega

theorem keyOf_of {P : Program} {k : TypeId} {x : Int} (ht : P.underlying k = some (.int .i64)) (hw : (Lit.int .i64 x).wf = true) : keyOf P k (.int .i64 x) = some (.int .i64 x) := by
  simp [keyOf, mapKey, ht, hw]

theorem ownsMap_of {w : World} {r : Nat} {m : IMap} (hm : MapAt w r m) (hk : ∀ k, mget m k ≠ none → 0 ≤ k ∧ k < 8192) :
    ∃ D0 : DataW Unit, w.ownsMap Try.prog 3 (fun _ => some (.nil, [])) r m.length D0 ∧ (intKeys D0).Perm (m.map (·.1)) ∧ Maps.size D0 = m.length ∧ m.length ≤ 8192 := by
  obtain ⟨es, clock, hat, hf⟩ := hm
  have hmem : ∀ x ∈ m.map (·.1), 0 ≤ x ∧ x < ((8192 : Nat) : Int) := fun x hx => by
    have := hk x (fun e => mget_none.1 e hx)
    omega
  have hlen : m.length ≤ 8192 := by
    have := pigeon 8192 (m.map (·.1)) hf.keys hmem
    simpa using this
  have hsz : es.size = m.length := by
    have := congrArg List.length hf.eq
    simpa using this
  have hkeys : es.toList.map (·.key) = m.map fun p => Value.int .i64 p.1 := by
    have := congrArg (List.map Prod.fst) hf.eq
    simpa [List.map_map, Function.comp_def, ekv, kv] using this
  have hkey : ∀ e ∈ es.toList, ∃ x, e.key = .int .i64 x ∧ (Lit.int .i64 x).wf = true := fun e he => by
    have h1 : e.key ∈ es.toList.map (·.key) := List.mem_map.2 ⟨e, he, rfl⟩
    rw [hkeys] at h1
    obtain ⟨p, hp, hx⟩ := List.mem_map.1 h1
    have h2 := hmem p.1 (List.mem_map.2 ⟨p, hp, rfl⟩)
    exact ⟨p.1, hx.symm, by simp [Lit.wf, IntKind.min, IntKind.max, IntKind.signed, IntKind.bits]; omega⟩
  have hrd : ∀ e ∈ es.toList, ∀ x, e.key = .int .i64 x → (Lit.int .i64 x).wf = true → WideElems.rd (H := Unit) Try.prog 3 (fun _ => some (.nil, [])) e = some (.int .i64 x, .nil) := fun e _ x hx hw => by
    unfold WideElems.rd
    rw [hx, keyOf_of Try.underlying3 hw]; rfl
  refine ⟨_, ⟨es, clock, hat, ⟨by rw [hsz]; unfold maxLen; omega, ⟨hf.old, hf.borns, ?_⟩, fun e he => ?_⟩, by omega, rfl⟩, ?_, ?_, hlen⟩
  · rw [hkeys]
    have : (m.map fun p => Value.int .i64 p.1) = (m.map (·.1)).map (Value.int .i64) := by simp [List.map_map, Function.comp_def]
    rw [this]
    exact List.Pairwise.map (Value.int .i64) (fun a b (hne : a ≠ b) (e : Value.int .i64 a = Value.int .i64 b) => hne (by injection e)) hf.keys
  · obtain ⟨x, hx, hw⟩ := hkey e he
    exact ⟨_, hrd e he x hx hw⟩
  · show (List.map (fun p => Go.intOf p.1) ((es.toList.map (WideElems.rg (H := Unit) Try.prog 3 (fun _ => some (.nil, [])))).foldr DataW.insert [])).Perm _
    refine ((sorted_perm _).map _).trans ?_
    rw [List.map_map]
    have : es.toList.map ((fun p => Go.intOf p.1) ∘ WideElems.rg (H := Unit) Try.prog 3 (fun _ => some (.nil, []))) = m.map (·.1) := by
      have h2 : es.toList.map ((fun p => Go.intOf p.1) ∘ WideElems.rg (H := Unit) Try.prog 3 (fun _ => some (.nil, []))) = (es.toList.map (·.key)).map (fun v => match v with | .int _ x => x | _ => 0) := by
        rw [List.map_map]
        refine List.map_congr_left fun e he => ?_
        obtain ⟨x, hx, hw⟩ := hkey e he
        simp only [Function.comp_apply, WideElems.rg, hrd e he x hx hw, Option.getD_some, hx]
        rfl
      rw [h2, hkeys, List.map_map]; rfl
    rw [this]
  · show (((es.toList.map (WideElems.rg (H := Unit) Try.prog 3 (fun _ => some (.nil, [])))).foldr DataW.insert [])).length = m.length
    rw [(sorted_perm _).length_eq, List.length_map]
    simpa using hsz

/-- A list of ints of its own, in order. -/
def OwnI (n : Nat) (w : World) (v : Value) (ks : List Int) : Prop := ∃ a c, v = .slice a ks.length c ∧ w.ownsRow n 3 1 (.slice a ks.length c) ks.length (i64s ks) ∧ (a = none ↔ ks = [])

theorem below_chg {w w' : World} (h : Below w.heap.size w w') : Chg No w w' := ⟨h.os, h.tape, h.output, h.size, fun i hi _ => h.block i hi⟩

set_option maxRecDepth 100000 in
theorem Keys_ok {w : World} {r : Nat} : Ret Try.prog 98 #[.map (some r)] w fun v w' => v = .func (.func 118) #[] #[.pointer (some ⟨w.heap.size, 0, none⟩)] ∧ w' = w.alloc (.cells #[.map (some r)] 95) := by
  refine Ret.of_calls (Calls.mono (callsIn_wide.1 (AnyZI.keys_in TrykeysD Fence.wide 5 trivial rfl (some r) w)) ?_)
  rintro e w' ⟨rfl, rfl⟩
  exact ⟨_, rfl, rfl, rfl⟩

set_option maxRecDepth 100000 in
theorem Sorted_ok {w : World} {r : Nat} {m : IMap} (hm : MapAt w r m) (hk : ∀ k, mget m k ≠ none → 0 ≤ k ∧ k < 8192) :
    Ret Try.prog 92 #[.func (.func 118) #[] #[.pointer (some ⟨w.heap.size, 0, none⟩)]] (w.alloc (.cells #[.map (some r)] 95)) fun v w' =>
      ∃ ks, OwnI w.heap.size w' v ks ∧ ks.Perm (m.map (·.1)) ∧ ks.Pairwise (· ≤ ·) ∧ Chg No w w' := by
  obtain ⟨D0, hown, hperm, hsz, hlen⟩ := ownsMap_of hm hk
  have hbl := hm.lt
  have hseq : SeqGives Fence.wide 2 Try.prog 118 #[.pointer (some ⟨w.heap.size, 0, none⟩)] encZ (fun ss => ss.Perm (intKeys D0)) (Maps.size D0) (w.alloc (.cells #[.map (some r)] 95)) :=
    AnyZI.keys_gives (ρ := TrykeysD_ren) { TrykeysD with } Fence.wide _ trivial rfl (by omega) w.heap.size r m.length D0 _ (by simp) (by simp) (by
      obtain ⟨es, clock, hb, Ft, hs, hD⟩ := hown
      exact ⟨es, clock, (Below.heap_alloc _ _ r hbl).trans hb, Ft, hs, hD⟩)
  have cS := AnyZI.sorted_in TrysortedD Fence.wide 5 trivial trivial trivial trivial rfl (by omega) (TrysortsD _) (enters_of Try.func115 (by kernel_rfl) rfl) 118 #[.pointer (some ⟨w.heap.size, 0, none⟩)] trivial (enters_of Try.func118 (by kernel_rfl) rfl) _ _ (by rw [hsz]; unfold maxLen; omega) (by rw [hsz]; omega) _ hseq
  refine Ret.of_calls (Calls.mono (callsIn_wide.1 cS) ?_)
  rintro e w' ⟨v, ss, rfl, hS, hrow, hnil, hb⟩
  have hp2 : (ss.mergeSort fun x y => decide (x ≤ y)).Perm ss := List.mergeSort_perm _ _
  have hl2 : (ss.mergeSort fun x y => decide (x ≤ y)).length = ss.length := hp2.length_eq
  have hB : Below w.heap.size w w' := ((Below.refl _ w).alloc (Nat.le_refl _) _).trans (hb.mono (by simp))
  refine ⟨v, rfl, ss.mergeSort fun x y => decide (x ≤ y), ?_, hp2.trans (hS.trans hperm), ?_, below_chg hB⟩
  · have hrow2 : w'.ownsRow w.heap.size 3 1 v ss.length (i64s (ss.mergeSort fun x y => decide (x ≤ y))) := own_lower hrow (by simp)
    rcases hrow2.2 with ⟨hv, h0⟩ | ⟨g, cap, cur, hv, rest⟩
    · have he : ss = [] := List.eq_nil_of_length_eq_zero h0
      subst he
      exact ⟨none, 0, by rw [hv]; simp, by simpa [i64s] using World.ownsRow_nil _ _ _ _, by simp⟩
    · refine ⟨some ⟨g, 0, none⟩, cap, by rw [hl2]; exact hv, by rw [hl2, ← hv]; exact hrow2, ⟨fun h => (by cases h), fun h => ?_⟩⟩
      have : ss = [] := List.eq_nil_of_length_eq_zero (by rw [← hl2, h]; rfl)
      rw [hnil.2 this] at hv; cases hv
  · have := List.pairwise_mergeSort (le := fun (x y : Int) => decide (x ≤ y)) (fun a b c h1 h2 => by simp at *; omega) (fun a b => by simp; omega) ss
    exact this.imp (fun h => by simpa using h)

/-- The sectors that are not durable, in order. -/
theorem Dirty_ok {γ : Nat → Nat} {c : Nat} {w : World} {p : Nat} {S : PSt} (h : PlAt γ c w p S) :
    Ret Try.prog 54 #[.pointer (some ⟨p, 0, none⟩)] w fun v w' => ∃ ks, OwnI w.heap.size w' v ks ∧ ks.Nodup ∧ ks.Pairwise (· ≤ ·) ∧ (∀ k, k ∈ ks ↔ S.cache k ≠ none) ∧ Chg No w w' := by
  obtain ⟨hl, hrg, b, r, cap, vs, m, hraw, g1, g2, g3, hs, hcr⟩ := h
  have hp := hraw.hp
  have hkey : ∀ k, mget m k ≠ none ↔ S.cache k ≠ none := fun k => by
    rcases hcr k with ⟨h1, h2⟩ | ⟨u, b, h1, h2, _⟩
    · rw [h1, h2]; simp
    · rw [h1, h2]; simp
  refine Ret_of_X 12 Try.func54 rfl Try.ntmps54 rfl rfl ?_
  refine XC_seq rfl ?_
  refine XC_region rfl ?_
  refine o_as (.slice _ _ _) rfl rfl rfl rfl ?_
  refine XO_end rfl ?_
  refine thenX_normal ?_
  refine XC_seq rfl ?_
  refine XC_seq rfl ?_
  refine XC_region rfl ?_
  refine o_mv (.pointer _) rfl rfl rfl rfl ?_
  refine XO_stepd rfl rfl rfl rfl (m_call Try.call63 (state_raw hp (by omega)) rfl ?_)
  rintro _ _ ⟨rfl, rfl⟩
  refine o_neq rfl rfl rfl rfl rfl ?_
  refine XO_end rfl ?_
  refine thenX_normal ?_
  refine XC_cond rfl rfl (fun hb => ?_) (fun hb => ?_)
  · exfalso; simp at hb
  refine XC_skip rfl ?_
  refine thenX_normal ?_
  refine XC_seq rfl ?_
  refine XC_region rfl ?_
  refine o_mv (.pointer _) rfl rfl rfl rfl ?_
  refine o_nilc rfl rfl rfl rfl ?_
  refine o_fa0 1 rfl rfl rfl Try.underlying97 rfl Try.sizeOf95 rfl rfl rfl ?_
  refine o_ldB (.map _) rfl rfl rfl Try.isAgg95 rfl (by assumption) rfl ?_
  refine XO_stepd rfl rfl rfl rfl (m_call Try.call98 (Keys_ok) rfl ?_)
  rintro _ _ ⟨rfl, rfl⟩
  refine XO_stepd rfl rfl rfl rfl (m_call Try.call92 (Sorted_ok hraw.hm (fun k hk => by have := hrg k ((hkey k).1 hk); omega)) rfl ?_)
  rintro _ w2 ⟨ks, ⟨a2, c2, rfl, ho2⟩, hpm, hsd, hc2⟩
  refine o_as (.slice _ _ _) rfl rfl rfl rfl ?_
  refine XO_end rfl ?_
  refine thenX_normal ?_
  refine XC_ret rfl ?_
  refine topX_ret ?_
  refine RetV_of (.slice _ _ _) rfl ?_
  exact ⟨ks, ⟨a2, c2, rfl, ho2⟩, (hpm.nodup_iff).2 hraw.hm.nodup, hsd, fun k => by rw [← hkey k, hpm.mem_iff]; exact ⟨fun hx e => mget_none.1 e hx, fun hx => Decidable.byContradiction fun hn => hx (mget_none.2 hn)⟩, hc2⟩
end Go.Proofs.Ytijjnlfmlcbfpaa

/- An argument that is a list of calls of a log, opened. -/
import Derived.Test.YtijjnlfmlcbfpaaFrame
import Derived.Test.YtijjnlfmlcbfpaaAnewW
set_option linter.unusedVariables false
set_option maxRecDepth 4000
namespace Go.Proofs.Ytijjnlfmlcbfpaa
open Go Go.ChangeShapes Go.WideShapes Go.ChangeAt Go.RowKit Go.Deep

theorem open_bytes_trod {H : Type} {enc : TypeId × Value → H} {W : World} {base fuel : Nat} {v : Value} {x : DataW H × List MemPlace} (h : DataW.trod enc Try.prog W base (fun _ => true) true fuel 28 [v] = some x) :
    ∃ b, ArgB W v b ∧ b.length ≤ Rows.uptoBulk x.1 := by
  rcases open_ints Try.underlying28 Try.underlying5 Tryone5 h with ⟨hcs, hx⟩ | ⟨a, len, cap, zs, hcs, _, hl, hm, hz, hx, hcell, hwz⟩
  · simp at hcs; subst hcs
    exact ⟨[], ⟨none, 0, rfl, Row.nil _ _, by simp, fun x hx => by cases hx⟩, by simp⟩
  · simp at hcs; subst hcs
    simp only [if_true] at hz
    have hlen : (zs.take len).length = len := by simp; omega
    refine ⟨zs.take len, ⟨some a, cap, by rw [hlen], ?_, by omega, fun y hy => u8_wf (hwz y (List.mem_of_mem_take hy))⟩, ?_⟩
    · rw [hlen]
      refine row_of_cells (by rw [u8s_len, hlen]) fun i v hv => ?_
      simp only [u8s, List.getElem?_map, List.getElem?_take] at hv
      split at hv
      · rename_i hi
        rw [hcell i (by omega), List.getD_eq_getElem?_getD]
        cases hq : zs[i]? with
        | none => rw [hq] at hv; cases hv
        | some z => rw [hq] at hv; simpa using hv
      · cases hv
    · have hb := bulk_len (lits (H := H) .u8 (zs.take len))
      have e : (lits (H := H) .u8 (zs.take len)).length = len := by simp [lits]; omega
      subst hx
      simp only [Rows.uptoBulk, hlen]
      omega

theorem open_recs_trod {H : Type} {enc : TypeId × Value → H} {W : World} {base fuel : Nat} {v : Value} {x : DataW H × List MemPlace} (hf : DataW.trod enc Try.prog W base (fun _ => true) true fuel 22 [v] = some x) :
    ∃ a L c vs bss, v = .slice a L c ∧ Row W a L vs ∧ ArgBs W vs bss ∧ L ≤ Rows.uptoBulk x.1 ∧ ∀ b ∈ bss, b.length ≤ Rows.uptoBulk x.1 := by
  rcases open_slice1 Try.underlying22 Tryone28 hf with ⟨hcs, hx⟩ | ⟨a, len, cap, m, n, V, D, Pl, hcs, _, hl, hm, hmm, hx, hel⟩
  · simp at hcs; subst hcs
    exact ⟨none, 0, 0, [], [], rfl, Row.nil _ _, ⟨rfl, fun j v b h => by simp at h⟩, by omega, fun b hb => by simp at hb⟩
  · simp at hcs; subst hcs
    simp only [if_true] at hmm
    subst hmm
    have each : ∀ i, i < m → ∃ b, ArgB W (V i) b ∧ b.length ≤ Rows.uptoBulk (D i) := fun i hi => open_bytes_trod (hel i hi).2
    obtain ⟨B, hB⟩ := choose_lt each
    have hlm : len ≤ m := hl
    refine ⟨some a, len, m, (List.range len).map V, (List.range len).map B, rfl, row_of_cells (by simp) ?_, ⟨by simp, ?_⟩, ?_, ?_⟩
    · intro j v hv
      simp only [List.getElem?_map] at hv
      rcases Nat.lt_or_ge j len with hj | hj
      · rw [List.getElem?_range hj] at hv
        simp at hv; subst hv
        exact (hel j (by omega)).1
      · rw [List.getElem?_eq_none (by simp; omega)] at hv; cases hv
    · intro j v b hv hb
      simp only [List.getElem?_map] at hv hb
      rcases Nat.lt_or_ge j len with hj | hj
      · rw [List.getElem?_range hj] at hv hb
        simp at hv hb; subst hv; subst hb
        exact (hB j (by omega)).1
      · rw [List.getElem?_eq_none (by simp; omega)] at hv; cases hv
    · have := bulk_len ((List.range len).map D)
      simp only [List.length_map, List.length_range] at this
      subst hx
      simp only [Rows.uptoBulk]
      omega
    · intro b hb
      obtain ⟨r, hr, rfl⟩ := List.mem_map.1 hb
      have hr' := List.mem_range.1 hr
      have h2 := bulk_part (d := D r) (l := (List.range len).map D) (List.mem_map.2 ⟨r, hr, rfl⟩)
      have h3 := (hB r (by omega)).2
      subst hx
      simp only [Rows.uptoBulk]
      omega

theorem TryoneI : Try.prog.cellsOf 3 = 1 := by kernel_rfl
theorem TryoneU : Try.prog.cellsOf 34 = 1 := by kernel_rfl
theorem TryoneS : Try.prog.cellsOf 22 = 1 := by kernel_rfl
theorem TrysixD : Try.prog.cellsOf 36 = 6 := by kernel_rfl

instance : Inhabited DoV := ⟨⟨0, 0, 0, [], [], 0⟩⟩
set_option maxRecDepth 100000 in
/-- An argument of the type []Do. -/
theorem open_dos {H : Type} {enc : TypeId × Value → H} {W : World} {base : Nat} {v0 : Value} {d0 : DataW H} {p0 : List MemPlace} (hval : Value.okWide Try.prog W .any base 33 v0) (h0 : DataW.Trod enc Try.prog W 0 (fun _ => true) true 33 v0 d0 p0) :
    ∃ a L c ds, v0 = .slice a L c ∧ DosAt W a L ds ∧ L ≤ Rows.uptoBulk d0 ∧ ∀ d ∈ ds, d.one.length ≤ Rows.uptoBulk d0 ∧ d.recs.length ≤ Rows.uptoBulk d0 ∧ ∀ b ∈ d.recs, b.length ≤ Rows.uptoBulk d0 := by
  obtain ⟨a0, len0, cap0, rfl⟩ := okWide_slice Try.underlying33 hval
  obtain ⟨fuel, hf⟩ := h0
  rcases open_slice Try.underlying33 hf with ⟨hcs, hx⟩ | ⟨a, len, cap, m, n, D, Pl, hcs, _, hl, hm, hmm, hx, hel⟩
  · simp [Value.cells] at hcs
    obtain ⟨rfl, rfl, rfl⟩ := hcs
    exact ⟨none, 0, 0, [], rfl, ⟨rfl, fun k d h => by simp at h⟩, by omega, fun d hd => by cases hd⟩
  · simp [Value.cells] at hcs
    obtain ⟨rfl, rfl, rfl⟩ := hcs
    simp only [if_true] at hmm
    subst hmm
    rw [TrysixD] at hel
    simp only [Prod.mk.injEq] at hx
    obtain ⟨rfl, _⟩ := hx
    have each : ∀ i, i < m → ∃ d : DoV, DoAt W (some a) i d ∧ d.one.length ≤ Rows.uptoBulk (D i) ∧ d.recs.length ≤ Rows.uptoBulk (D i) ∧ ∀ b ∈ d.recs, b.length ≤ Rows.uptoBulk (D i) := by
      intro i hi
      obtain ⟨cs', h1, h2⟩ := hel i hi
      obtain ⟨_, hlen, hcell⟩ := World.cells?_some h1
      obtain ⟨xs, k, _, hxy, _, hxl, hfl⟩ := DataW.trod_struct Try.underlying36 h2
      match xs, hxl, cs', hlen with
      | [y0, y1, y2, y3, y4, y5], _, [c0, c1, c2, c3, c4, c5], _ =>
        have g0 := hfl 0 _ rfl
        have g1 := hfl 1 _ rfl
        have g2 := hfl 2 _ rfl
        have g3 := hfl 3 _ rfl
        have g4 := hfl 4 _ rfl
        have g5 := hfl 5 _ rfl
        simp [TryoneI, TryoneU, TryoneS, Tryone28] at g0 g1 g2 g3 g4 g5
        obtain ⟨n0, e0, _, _⟩ := DataW.trod_int Try.underlying3 g0
        obtain ⟨n1, e1, _, _⟩ := DataW.trod_int Try.underlying3 g1
        obtain ⟨n2, e2, _, _⟩ := DataW.trod_int Try.underlying3 g2
        obtain ⟨n5, e5, _, _⟩ := DataW.trod_int Try.underlying34 g5
        simp at e0 e1 e2 e5; subst e0; subst e1; subst e2; subst e5
        obtain ⟨one, ho, hob⟩ := open_bytes_trod g3
        obtain ⟨a4, L4, k4, vs4, bss4, rfl, hr4, hb4, hl4, hB4⟩ := open_recs_trod g4
        simp only [Prod.mk.injEq] at hxy
        have hbulk : Rows.uptoBulk y3.1 ≤ Rows.uptoBulk (D i) ∧ Rows.uptoBulk y4.1 ≤ Rows.uptoBulk (D i) := by
          rw [hxy.1]; simp [Rows.uptoBulk, Rows.uptoBulkAll]; omega
        have hc0 := hcell 0 (by omega)
        simp only [Addr.add] at hc0
        obtain ⟨bb, o, hoff⟩ : ∃ bb o, a = ⟨bb, o, none⟩ := by
          have hs := World.cell?_spot (a := (a.add (i * 6)).add 0) (v := .int .i64 n0) (by rw [hcell 0 (by omega)]; rfl)
          have hel0 := hel 0 (by omega)
          obtain ⟨cs2, q1, _⟩ := hel0
          obtain ⟨_, ql, qc⟩ := World.cells?_some q1
          have q0 := qc 0 (by omega)
          rw [List.getElem?_eq_getElem (by omega)] at q0
          have hs2 := World.cell?_spot q0
          simp only [Addr.add, Nat.zero_mul, if_true] at hs2
          obtain ⟨bb, o, s⟩ := a
          exact ⟨bb, o, by simp at hs2; rw [hs2]⟩
        subst hoff
        refine ⟨⟨n0, n1, n2, one, bss4, n5⟩, ⟨bb, o, c3, .slice a4 L4 k4, rfl, fun j v hv => ?_, ho, a4, L4, k4, vs4, rfl, hr4, hb4⟩, by show one.length ≤ _; omega, ?_, fun b hb => by have := hB4 b hb; omega⟩
        · have hj : j < 6 := by have := (List.getElem?_eq_some_iff.1 hv).1; simpa using this
          have := hcell j hj
          rw [show (Addr.add ⟨bb, o, none⟩ (i * 6)) = ⟨bb, o + i * 6, none⟩ from add_plain _ _ _] at this
          rw [this]; exact hv
        · show bss4.length ≤ _
          have : bss4.length = L4 := by rw [← hb4.1]; exact hr4.1
          omega
    obtain ⟨E, hE⟩ := choose_lt each
    refine ⟨some a, len0, m, (List.range len0).map E, rfl, ⟨by simp, fun k d hk => ?_⟩, ?_, fun d hd => ?_⟩
    · simp only [List.getElem?_map] at hk
      rcases Nat.lt_or_ge k len0 with hj | hj
      · rw [List.getElem?_range hj] at hk
        simp at hk; subst hk
        exact (hE k (by omega)).1
      · rw [List.getElem?_eq_none (by simp; omega)] at hk; cases hk
    · have := bulk_len ((List.range len0).map D)
      simp only [List.length_map, List.length_range] at this
      simp only [Rows.uptoBulk]
      omega
    · obtain ⟨r, hr, rfl⟩ := List.mem_map.1 hd
      have hr' := List.mem_range.1 hr
      have h2 := bulk_part (d := D r) (l := (List.range len0).map D) (List.mem_map.2 ⟨r, hr, rfl⟩)
      have h3 := (hE r (by omega)).2
      simp only [Rows.uptoBulk]
      exact ⟨by omega, by omega, fun b hb => by have := h3.2.2 b hb; omega⟩
end Go.Proofs.Ytijjnlfmlcbfpaa

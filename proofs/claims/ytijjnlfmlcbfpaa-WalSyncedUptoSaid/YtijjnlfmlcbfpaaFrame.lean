/- The frame of a law: its arguments opened, and read again behind a call that has changed nothing that was there. -/
import Derived.Test.YtijjnlfmlcbfpaaRows
import Derived.Test.YtijjnlfmlcbfpaaRoomW
import Derived.WalkKit
import Derived.ProofKit
import Derived.OpenShut
import Derived.JoinedCond
import Derived.Deep.Matrix
set_option linter.unusedVariables false
set_option maxRecDepth 4000
namespace Go.Proofs.Ytijjnlfmlcbfpaa
open Go Go.ChangeShapes Go.WideShapes Go.ChangeAt Go.RowKit Go.Deep

theorem Tryown : ownKnob Try.prog.godebug = none := by kernel_rfl
theorem TrylaidOut : laidOutB Try.prog = true := by kernel_rfl

theorem Chg.below {w w' : World} (h : Chg No w w') : Below w.heap.size w w' := ⟨h.os, h.tape, h.output, h.size, fun k hk => h.keep k hk (fun x => x)⟩

theorem trodAll_stays {H : Type} {enc : TypeId × Value → H} {P : Program} {W W' : World} (hl : laidOutB P = true) (hb : Below W.heap.size W W') : ∀ (ts : List TypeId) (vs : List Value) (ds : List (DataW H)) (ps : List MemPlace),
    ts.all (fun t => P.readableRec t && decide (t < P.types.size)) = true → DataW.TrodAll enc P W 0 (fun _ => true) true ts vs ds ps → (∀ x ∈ ps, x.block < W.heap.size) →
    DataW.TrodAll enc P W' 0 (fun b => decide (b < W.heap.size)) true ts vs ds ps
  | [], vs, ds, ps, _, h, _ => by
    cases vs <;> cases ds <;> simp_all [DataW.TrodAll]
  | t :: ts, vs, ds, ps, hr, h, hlt => by
    obtain ⟨v, vs', d, ds', p, q, rfl, rfl, rfl, h0, h1⟩ := trodAll_cons h
    simp only [List.all_cons, Bool.and_eq_true, decide_eq_true_eq] at hr
    exact trodAll_cons_mk (Below.trod hl hr.1.1 hr.1.2 h0 hb (fun x hx => hlt x (List.mem_append.2 (.inl hx)))) (trodAll_stays hl hb ts vs' ds' q hr.2 h1 (fun x hx => hlt x (List.mem_append.2 (.inr hx))))

theorem bulk_one {H : Type} (d : DataW H) : 1 ≤ Rows.uptoBulk d := by
  cases d with
  | lit l => cases l <;> simp [Rows.uptoBulk]
  | _ => simp [Rows.uptoBulk]
theorem bulk_part {H : Type} {d : DataW H} : ∀ {l : List (DataW H)}, d ∈ l → Rows.uptoBulk d ≤ Rows.uptoBulkAll l
  | x :: r, h => by
    simp only [Rows.uptoBulkAll]
    cases List.mem_cons.1 h with
    | inl e => subst e; omega
    | inr e => have := bulk_part e; omega
theorem bulk_len {H : Type} : ∀ l : List (DataW H), l.length ≤ Rows.uptoBulkAll l
  | [] => by simp [Rows.uptoBulkAll]
  | x :: r => by have := bulk_one x; have := bulk_len r; simp only [Rows.uptoBulkAll, List.length_cons]; omega
theorem bulk_row {H : Type} {k : IntKind} {A : Option Addr} {L : Nat} {zs : List Int} (h : A = none → L = 0) (hl : L ≤ zs.length) : L ≤ Rows.uptoBulk (intRow (H := H) k A L zs) := by
  cases A with
  | none => rw [h rfl]; omega
  | some a =>
    have := bulk_len (lits (H := H) k (zs.take L))
    simp only [intRow, Rows.uptoBulk]
    have e : (lits (H := H) k (zs.take L)).length = L := by simp [lits]; omega
    omega
theorem bulk_bound {H : Type} {l : List (DataW H)} (hk : Rows.uptoSmall H l = true) : Rows.uptoBulkAll l ≤ 1048576 := of_decide_eq_true hk

theorem Tryone28 : Try.prog.cellsOf 28 = 1 := by kernel_rfl
theorem Tryone5 : Try.prog.cellsOf 5 = 1 := by kernel_rfl

theorem addr_plain {w : World} {a : Addr} {v : Value} (h : w.cell? a = some v) : ∃ b o, a = ⟨b, o, none⟩ := by
  have := World.cell?_spot h
  obtain ⟨b, o, s⟩ := a
  exact ⟨b, o, by simp at this; rw [this]⟩

/-- A row out of an argument's cells. -/
theorem row_of_cells {w : World} {a : Addr} {l : Nat} {xs : List Value} (hl : xs.length = l) (h : ∀ j v, xs[j]? = some v → w.cell? (a.add j) = some v) : Row w (some a) l xs := by
  refine ⟨hl, fun j v hv => ?_⟩
  have hc := h j v hv
  have hlt : 0 < xs.length := by have := (List.getElem?_eq_some_iff.1 hv).1; omega
  have hs := World.cell?_spot (h 0 xs[0] (List.getElem?_eq_getElem hlt))
  simp only [Addr.add, if_true] at hs
  obtain ⟨b, o, s⟩ := a
  simp at hs; subst hs
  exact ⟨b, o, rfl, by rw [← add_plain]; exact hc⟩

theorem u8_wf {n : Int} (h : (Lit.int .u8 n).wf = true) : 0 ≤ n ∧ n ≤ 255 := by simpa [Lit.wf, IntKind.min, IntKind.max, IntKind.signed, IntKind.bits] using h

/-- An argument of the type [][]byte. -/
theorem open_recs {H : Type} {enc : TypeId × Value → H} {W : World} {base : Nat} {v0 : Value} {d0 : DataW H} {p0 : List MemPlace} (hval : Value.okWide Try.prog W .any base 22 v0) (h0 : DataW.Trod enc Try.prog W 0 (fun _ => true) true 22 v0 d0 p0) :
    ∃ a L c vs bss, v0 = .slice a L c ∧ Row W a L vs ∧ ArgBs W vs bss ∧ L ≤ Rows.uptoBulk d0 ∧ ∀ b ∈ bss, b.length ≤ Rows.uptoBulk d0 := by
  obtain ⟨a0, len0, cap0, rfl⟩ := okWide_slice Try.underlying22 hval
  obtain ⟨fuel, hf⟩ := h0
  rcases open_int_rows Try.underlying22 Try.underlying28 Try.underlying5 Tryone28 Tryone5 hf with ⟨hcs, hx⟩ | ⟨a, len, cap, A, L, C, Z, hcs, _, hl, hm, hx, hrows⟩
  · simp [Value.cells] at hcs
    obtain ⟨rfl, rfl, rfl⟩ := hcs
    exact ⟨none, 0, 0, [], [], rfl, Row.nil _ _, ⟨rfl, fun j v b h => by simp at h⟩, by omega, fun b hb => by simp at hb⟩
  · simp [Value.cells] at hcs
    obtain ⟨rfl, rfl, rfl⟩ := hcs
    simp only [Prod.mk.injEq] at hx
    obtain ⟨rfl, _⟩ := hx
    refine ⟨some a, len0, cap0, (List.range len0).map fun r => .slice (A r) (L r) (C r), (List.range len0).map fun r => (Z r).take (L r), rfl, row_of_cells (by simp) ?_, ⟨by simp, ?_⟩, ?_, ?_⟩
    · intro j v hv
      simp only [List.getElem?_map] at hv
      rcases Nat.lt_or_ge j len0 with hj | hj
      · rw [List.getElem?_range hj] at hv
        simp at hv; subst hv
        exact (hrows j (by omega)).1
      · rw [List.getElem?_eq_none (by simp; omega)] at hv; cases hv
    · intro j v b hv hb
      simp only [List.getElem?_map] at hv hb
      rcases Nat.lt_or_ge j len0 with hj | hj
      · rw [List.getElem?_range hj] at hv hb
        simp at hv hb; subst hv; subst hb
        obtain ⟨_, r1, r2, r3, r4, r5, r6⟩ := hrows j (by omega)
        have hlen : ((Z j).take (L j)).length = L j := by simp; omega
        refine ⟨A j, C j, by rw [hlen], ?_, by omega, fun x hx => u8_wf (r4 x (List.mem_of_mem_take hx))⟩
        rw [hlen]
        cases hA : A j with
        | none =>
          have := r5 hA
          have h0 : L j = 0 := by omega
          rw [h0]; simp only [List.take_zero]; exact Row.nil _ _
        | some a' =>
          refine row_of_cells (by rw [u8s_len, hlen]) fun i v hv => ?_
          simp only [u8s, List.getElem?_map, List.getElem?_take] at hv
          split at hv
          · rename_i hi
            have := (r6 a' hA).2 i (by omega)
            rw [this]
            rw [List.getD_eq_getElem?_getD]
            cases hz : (Z j)[i]? with
            | none => rw [hz] at hv; cases hv
            | some z => rw [hz] at hv; simpa using hv
          · cases hv
      · rw [List.getElem?_eq_none (by simp; omega)] at hv; cases hv
    · have := bulk_len ((List.range len0).map fun r => intRow (H := H) .u8 (A r) (L r) (Z r))
      simp only [List.length_map, List.length_range] at this
      simp only [Rows.uptoBulk]
      omega
    · intro b hb
      obtain ⟨r, hr, rfl⟩ := List.mem_map.1 hb
      have hr' := List.mem_range.1 hr
      obtain ⟨_, r1, r2, r3, r4, r5, r6⟩ := hrows r (by omega)
      have h1 := bulk_row (H := H) (k := .u8) (A := A r) (L := L r) (zs := Z r) (fun h => by have := r5 h; omega) (by omega)
      have h2 := bulk_part (d := intRow (H := H) .u8 (A r) (L r) (Z r)) (l := (List.range len0).map fun r => intRow (H := H) .u8 (A r) (L r) (Z r)) (List.mem_map.2 ⟨r, hr, rfl⟩)
      simp only [Rows.uptoBulk, List.length_take]
      omega
end Go.Proofs.Ytijjnlfmlcbfpaa

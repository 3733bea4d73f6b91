/- Arrays as values: building one, an element of one. Holds for every program. -/
import Derived.Test.YtijjnlfmlcbfpaaMore
set_option linter.unusedSimpArgs false
set_option linter.unusedVariables false
namespace Go.Proofs.Ytijjnlfmlcbfpaa
open Go
def fillA : List Value → List (Nat × Value) → Option (List Value)
  | cs, [] => some cs
  | cs, (i, v) :: r => if v.cells.toList.length ≠ 1 ∨ i * 1 + v.cells.toList.length > cs.length then none else fillA (setMany cs (i * 1) v.cells.toList) r
theorem fill_fillA : ∀ (ps : List (Nat × Value)) (cs : List Value), Instr.fill (fun i => some (i * 1, 1)) cs.toArray ps = (fillA cs ps).map List.toArray
  | [], cs => rfl
  | (i, v) :: r, cs => by
    unfold Instr.fill fillA
    simp only
    by_cases hc : v.cells.toList.length ≠ 1 ∨ i * 1 + v.cells.toList.length > cs.length
    · rw [if_pos (by simpa using hc), if_pos hc]; rfl
    · rw [if_neg (by simpa using hc), if_neg hc]
      have := foldl_setMany (i * 1) v.cells.toList 0 cs.toArray
      have e : (Array.foldl (fun (cs : Array Value) x => match x with | (c, j) => cs.setIfInBounds (i * 1 + j) c) cs.toArray v.cells.zipIdx) = (setMany cs (i * 1) v.cells.toList).toArray := by
        rw [← Array.foldl_toList]
        simpa using this
      rw [e]
      exact fill_fillA r _
section
variable {P : Program} {n : Nat} {Q : Exit → Fr → World → Prop} {f : Fr} {w : World} {ops : Array Oper} {i : Nat} {KK : Fr → World → Prop} {S : World → Prop} {kk : Nat} {listed : Array Bool}
theorem run_buildA {t e : TypeId} {len : Nat} {z : Value} (hu : P.underlying t = some (.array len e)) (hs : ∀ w, (sizeOf e).run P w = .ok 1 w) (hz : ∀ w, (zeroValue t).run P w = .ok z w) (ps : List (Nat × Value)) (cells : List Value) (hf : fillA z.cells.toList ps = some cells) :
    (Instr.build t ps.toArray).run P w = .ok (.agg cells.toArray) w := by
  have hfl := fill_fillA ps z.cells.toList
  rw [hf] at hfl
  simp only [Array.toArray_toList, Option.map_some] at hfl
  simp only [Instr.build, Sem.run_bind, hz, Result.andThen_ok, run_underlying hu, hs, hfl, Sem.run_pure]
theorem exec_buildA {d : Option Nat} {ty : TypeId} {pos : String} {aft : Array Edge} {gd : Option (Nat × Bool)} {t e : TypeId} {len : Nat} {z : Value} {parts : Array (Nat × Operand)} {ps : List (Nat × Value)} (cells : List Value)
    (hu : P.underlying t = some (.array len e)) (hs : ∀ w, (sizeOf e).run P w = .ok 1 w) (hz : ∀ w, (zeroValue t).run P w = .ok z w) (hp : parts.toList.map (fun p => (p.1, ev f p.2)) = ps) (hf : fillA z.cells.toList ps = some cells) :
    (Instr.build t (parts.map fun (x : Nat × Operand) => (x.1, ev f x.2))).run P w = .ok (.agg cells.toArray) w := by
  have hpm : (parts.map fun (x : Nat × Operand) => (x.1, ev f x.2)) = ps.toArray := by rw [← hp]; apply Array.ext'; simp
  exact hpm ▸ run_buildA hu hs hz ps cells hf
theorem o_buildA {d : Nat} {ty : TypeId} {pos : String} {aft : Array Edge} {gd : Option (Nat × Bool)} {t e : TypeId} {len : Nat} {z : Value} {parts : Array (Nat × Operand)} {ps : List (Nat × Value)} (cells : List Value)
    (ho : ops.toList[i]? = some ⟨some d, .build t parts, ty, pos, aft, gd⟩) (hw : wantedX ops n f gd = true) (hd : Nat.blt d n = true)
    (hu : P.underlying t = some (.array len e)) (hs : ∀ w, (sizeOf e).run P w = .ok 1 w) (hz : ∀ w, (zeroValue t).run P w = .ok z w) (hp : parts.toList.map (fun p => (p.1, ev f p.2)) = ps) (hf : fillA z.cells.toList ps = some cells)
    (h : XO P n ops Q (i + 1) (up f d (.agg cells.toArray)) w) : XO P n ops Q i f w := by
  refine XO_val ho hw rfl hd ?_ h
  simp only [execOp, Sem.run_bind]
  rw [exec_buildA (d := some d) (ty := ty) (pos := pos) (aft := aft) (gd := gd) cells hu hs hz hp hf]
  rfl
theorem q_buildA {d : Nat} {ty : TypeId} {pos : String} {aft : Array Edge} {gd : Option (Nat × Bool)} {t e : TypeId} {len : Nat} {z : Value} {parts : Array (Nat × Operand)} {ps : List (Nat × Value)} (cells : List Value)
    (ho : ops.toList[i]? = some ⟨some d, .build t parts, ty, pos, aft, gd⟩) (hw : wantedX ops n f gd = true) (hd : Nat.blt d n = true) (hok : takeOk ops listed i = true)
    (hu : P.underlying t = some (.array len e)) (hs : ∀ w, (sizeOf e).run P w = .ok 1 w) (hz : ∀ w, (zeroValue t).run P w = .ok z w) (hp : parts.toList.map (fun p => (p.1, ev f p.2)) = ps) (hf : fillA z.cells.toList ps = some cells)
    (h : S w → XH P n ops KK S kk (listed.setIfInBounds i true) (up f d (.agg cells.toArray)) w) (hSw : S w) : XH P n ops KK S (kk + 1) listed f w := by
  refine XH_take ho hw rfl hd hok (fun w hS => ?_) h hSw
  simp only [execOp, Sem.run_bind]
  rw [exec_buildA (d := some d) (ty := ty) (pos := pos) (aft := aft) (gd := gd) cells hu hs hz hp hf]
  rfl
theorem exec_idx {d : Option Nat} {ty : TypeId} {pos : String} {aft : Array Edge} {gd : Option (Nat × Bool)} {x y : Operand} {t e : TypeId} {len : Nat} {k : IntKind} {j : Int} {cs : Array Value} (v : Value) (m : Nat)
    (hu : P.underlying t = some (.array len e)) (ha : ∀ w, (isAgg e).run P w = .ok false w) (hs : ∀ w, (sizeOf e).run P w = .ok 1 w) (hx : ev f x = .agg cs) (hy : ev f y = .int k j) (hj : j = (m : Int)) (hm : m < len) (hv : cs.toList[m]? = some v) :
    (Instr.index t (ev f x) (ev f y)).run P w = .ok v w := by
  subst hj
  have hv' : cs[m]? = some v := by simpa using hv
  simp [hx, hy, Instr.index, run_underlying hu, asIntOf, hs, hm, part, ha, hv']
theorem o_idx {d : Nat} {ty : TypeId} {pos : String} {aft : Array Edge} {gd : Option (Nat × Bool)} {x y : Operand} {t e : TypeId} {len : Nat} {k : IntKind} {j : Int} {cs : Array Value} (v : Value) (m : Nat)
    (ho : ops.toList[i]? = some ⟨some d, .index t x y, ty, pos, aft, gd⟩) (hw : wantedX ops n f gd = true) (hd : Nat.blt d n = true)
    (hu : P.underlying t = some (.array len e)) (ha : ∀ w, (isAgg e).run P w = .ok false w) (hs : ∀ w, (sizeOf e).run P w = .ok 1 w) (hx : ev f x = .agg cs) (hy : ev f y = .int k j) (hj : j = (m : Int)) (hm : m < len) (hv : cs.toList[m]? = some v)
    (h : XO P n ops Q (i + 1) (up f d v) w) : XO P n ops Q i f w :=
  XO_val ho hw rfl hd (by simp only [execOp, Sem.run_bind]; rw [exec_idx (d := some d) (ty := ty) (pos := pos) (aft := aft) (gd := gd) v m hu ha hs hx hy hj hm hv]; rfl) h
end
end Go.Proofs.Ytijjnlfmlcbfpaa

/- Slices, appends, maps and iterators: what they hold, and one rule for each operation on them. Holds for every program. -/
import Derived.Test.YtijjnlfmlcbfpaaOps
import Derived.Maps.AppendAt
import Derived.Laws.MakeOwn
import Derived.Laws.CopyOwn
import Derived.Laws.AppendOwnNone
set_option linter.unusedSimpArgs false
set_option linter.unusedVariables false
namespace Go.Proofs.Ytijjnlfmlcbfpaa
open Go

/-! ## Slices that read as lists (elements of one cell) -/

/-- The slice at address a, of l elements, reads as xs. -/
def Row (w : World) (a : Option Addr) (l : Nat) (xs : List Value) : Prop :=
  xs.length = l ∧ ∀ j v, xs[j]? = some v → ∃ b o, a = some ⟨b, o, none⟩ ∧ w.cell? ⟨b, o + j, none⟩ = some v

def isBlk (a : Option Addr) (k : Nat) : Prop := ∃ ad, a = some ad ∧ ad.block = k
def Fresh (w : World) (a : Option Addr) : Prop := ∀ k, isBlk a k → w.heap.size ≤ k

theorem cell_keep {w w' : World} {M : Nat → Prop} {a : Addr} {v : Value} (c : Chg M w w') (h : w.cell? a = some v) (hn : ¬ M a.block) : w'.cell? a = some v := by
  have hlt := World.block_lt_of_cell? w a h
  rw [World.cell?_of_block (c.keep a.block hlt hn)]; exact h
theorem Row.keep {w w' : World} {M : Nat → Prop} {a : Option Addr} {l : Nat} {xs : List Value} (h : Row w a l xs) (c : Chg M w w') (hn : 0 < l → ∀ k, isBlk a k → ¬ M k) : Row w' a l xs :=
  ⟨h.1, fun j v hj => by
    obtain ⟨b, o, rfl, hc⟩ := h.2 j v hj
    have hl : 0 < l := by have := h.1; have := (List.getElem?_eq_some_iff.1 hj).1; omega
    exact ⟨b, o, rfl, cell_keep c hc (hn hl b ⟨_, rfl, rfl⟩)⟩⟩
theorem Row.keepNo {w w' : World} {a : Option Addr} {l : Nat} {xs : List Value} (h : Row w a l xs) (c : Chg No w w') : Row w' a l xs := h.keep c fun _ _ _ hm => hm
theorem Row.at_ {w : World} {a : Option Addr} {l : Nat} {xs : List Value} (h : Row w a l xs) {k : Nat} (hk : k < l) : ∃ b o v, a = some ⟨b, o, none⟩ ∧ xs[k]? = some v ∧ w.cell? ⟨b, o + k, none⟩ = some v := by
  have hk' : k < xs.length := by rw [h.1]; exact hk
  obtain ⟨b, o, ha, hc⟩ := h.2 k _ (List.getElem?_eq_getElem hk')
  exact ⟨b, o, _, ha, List.getElem?_eq_getElem hk', hc⟩
theorem Row.cell {w : World} {b o l : Nat} {xs : List Value} (h : Row w (some ⟨b, o, none⟩) l xs) {k : Nat} {v : Value} (hk : xs[k]? = some v) : w.cell? ⟨b, o + k, none⟩ = some v := by
  obtain ⟨b', o', ha, hc⟩ := h.2 k v hk
  injection ha with ha; injection ha with h1 h2; subst h1; subst h2; exact hc
theorem Row.nil (w : World) (a : Option Addr) : Row w a 0 [] := ⟨rfl, fun j v h => by simp at h⟩
theorem Row.len {w : World} {a : Option Addr} {l : Nat} {xs : List Value} (h : Row w a l xs) : xs.length = l := h.1
/-- Behind a cut at lo and hi. -/
theorem Row.sub {w : World} {a a' : Option Addr} {l lo hi : Nat} {xs : List Value} (h : Row w a l xs) (h1 : lo ≤ hi) (h2 : hi ≤ l) (ha : ∀ b o, a = some ⟨b, o, none⟩ → lo < hi → a' = some ⟨b, o + lo, none⟩) : Row w a' (hi - lo) ((xs.take hi).drop lo) := by
  refine ⟨by rw [List.length_drop, List.length_take, h.1]; omega, fun j v hj => ?_⟩
  rw [List.getElem?_drop, List.getElem?_take] at hj
  split at hj
  · obtain ⟨b, o, rfl, hc⟩ := h.2 (lo + j) v hj
    refine ⟨b, o + lo, ha b o rfl (by omega), ?_⟩
    rw [Nat.add_assoc]; exact hc
  · cases hj

theorem Row.of_own {w : World} {base e n c : Nat} {a : Option Addr} {xs : List Value} (h : w.ownsRow base e 1 (.slice a n c) n xs) : Row w a n xs := by
  refine ⟨by have := h.1; omega, fun j v hj => ?_⟩
  rcases h.2 with ⟨hn, h0⟩ | ⟨g, cap, cur, hv, _⟩
  · have : xs.length = 0 := by have := h.1; omega
    have : xs = [] := List.eq_nil_of_length_eq_zero this
    subst this; simp at hj
  · injection hv with ha
    subst ha
    refine ⟨g, 0, rfl, ?_⟩
    have := h.cells (g := g) rfl j v hj
    rwa [Addr.add_lit] at this
theorem own_blk {w : World} {base e s n c : Nat} {a : Option Addr} {xs : List Value} (h : w.ownsRow base e s (.slice a n c) n xs) : ∀ k, isBlk a k → base ≤ k ∧ k < w.heap.size := by
  intro k ⟨ad, ha, hk⟩
  subst ha
  exact h.lt k (by simp [Value.ownBlock, hk])
theorem grown_chg {w w' : World} {row : Option Nat} (h : w.grownBy w' row) : Chg (fun k => some k = row) w w' :=
  ⟨h.os, h.tape, h.output, h.size, fun b hb hn => h.block b hb hn⟩
theorem grown_chg_own {w w' : World} {a : Option Addr} {l c : Nat} (h : w.grownBy w' (Value.slice a l c).ownBlock) : Chg (isBlk a) w w' :=
  (grown_chg h).mono fun k _ hk => by
    have hk' : some k = (Value.slice a l c).ownBlock := hk
    cases a with
    | none => exact absurd hk' (by simp [Value.ownBlock])
    | some ad => exact ⟨ad, rfl, by injection hk' with e; exact e.symm⟩
theorem own_keep {w w' : World} {base e s n : Nat} {v : Value} {xs : List Value} {M : Nat → Prop} (h : w.ownsRow base e s v n xs) (c : Chg M w w') (hn : ∀ k, v.ownBlock = some k → ¬ M k) : w'.ownsRow base e s v n xs := by
  refine ⟨h.1, ?_⟩
  rcases h.2 with h0 | ⟨g, cap, cur, rfl, hb, hg, r⟩
  · exact .inl h0
  · exact .inr ⟨g, cap, cur, rfl, hb, At.keep hg c (hn g rfl), r⟩
theorem own_lower {w : World} {base base' e s n : Nat} {v : Value} {xs : List Value} (h : w.ownsRow base e s v n xs) (hb : base' ≤ base) : w.ownsRow base' e s v n xs := by
  refine ⟨h.1, ?_⟩
  rcases h.2 with h0 | ⟨g, cap, cur, rfl, hg, r⟩
  · exact .inl h0
  · exact .inr ⟨g, cap, cur, rfl, Nat.le_trans hb hg, r⟩

/-! ## A row of one's own that grows -/

theorem info_of {P : Program} {e : TypeId} {i : TypeInfo} (h : ∀ w, (typeInfo e).run P w = .ok i w) : P.info? e = some i := by
  have := h default
  unfold typeInfo at this
  simp only [Sem.run_bind, run_program, Result.andThen_ok] at this
  cases hi : P.info? e with
  | none => rw [hi] at this; simp at this
  | some j => rw [hi] at this; simp at this; rw [this]

section
variable {P : Program} {n : Nat} {Q : Exit → Fr → World → Prop} {f : Fr} {w : World} {ops : Array Oper} {i : Nat} {KK : Fr → World → Prop} {S : World → Prop} {kk : Nat} {listed : Array Bool} {K : Value → World → Prop} {ds : Option Nat}

/-- append onto a row of one's own; what is appended reads as ys. -/
theorem m_app {ty : TypeId} {pos : String} {aft : Array Edge} {gd : Option (Nat × Bool)} {x y : Operand} {t e : TypeId} {ti : TypeInfo} {z : Value} {bytes : Nat} {base l c m c2 : Nat} {a a2 : Option Addr} {xs ys : List Value}
    
    (ht : P.underlying t = some (.slice e)) (hi : ∀ w, (typeInfo e).run P w = .ok ti w) (hz : ti.zero = some z) (hs : ti.size = 1) (hzs : z.cells.size = 1) (hby : ti.bytes = bytes)
    (hx : ev f x = .slice a l c) (hy : ev f y = .slice a2 m c2) (hown : w.ownsRow base e 1 (.slice a l c) l xs) (hrow : Row w a2 m ys) (h1 : ∀ u ∈ ys, u.oneCell' = true)
    (hb : (l + m) * bytes ≤ 140737488355328) (h63 : l + m ≤ 9223372036854775807) (hbase : base ≤ w.heap.size)
    (h : ∀ a' c' w', w'.ownsRow base e 1 (.slice a' (l + m) c') (l + m) (xs ++ ys) → Chg (isBlk a) w w' → (∀ k, isBlk a' k → isBlk a k ∨ w.heap.size ≤ k) → (a' = none ↔ a = none ∧ m = 0) → K (.slice a' (l + m) c') w') : StepV P f ⟨ds, .call ⟨.builtin .append, #[x, y], #[t, t]⟩, ty, pos, aft, gd⟩ w K := by
  have hmax : l + m ≤ maxLen := by unfold maxLen; omega
  have hinfo := info_of hi
  have key : ∃ a' c' w', (Builtin.append_ #[t, t] ty #[.slice a l c, .slice a2 m c2]).run P w = .ok (.slice a' (l + m) c') w' ∧ w'.ownsRow base e 1 (.slice a' (l + m) c') (l + m) (xs ++ ys) ∧ Chg (isBlk a) w w' ∧ (∀ k, isBlk a' k → isBlk a k ∨ w.heap.size ≤ k) ∧ (a' = none ↔ a = none ∧ m = 0) := by
    cases a2 with
    | none =>
      have hm : m = 0 := by
        rcases Nat.eq_zero_or_pos m with h0 | h0
        · exact h0
        · obtain ⟨b, o, v, he, _⟩ := hrow.at_ h0; cases he
      subst hm
      have hys : ys = [] := List.eq_nil_of_length_eq_zero hrow.1
      subst hys
      refine ⟨a, c, w, ?_, by simpa using hown, Chg.refl _ _, fun k hk => .inl hk, by simp⟩
      rcases hown.2 with ⟨hn, h0⟩ | ⟨g, cap, cur, hv, _, _, hnc, _⟩
      · injection hn with e1 e2 e3; subst e1; subst e2; subst e3
        simp [Builtin.append_, run_underlying ht, sizeOf, hi, Builtin.lenOf, Builtin.firstCells]
      · injection hv with e1 e2 e3; subst e1; subst e3
        simp [Builtin.append_, run_underlying ht, sizeOf, hi, Builtin.lenOf, Builtin.firstCells, hnc, storeCells]
    | some ad =>
      have hcells : ∀ j u, ys[j]? = some u → w.cell? (ad.add j) = some u := by
        intro j u hj
        obtain ⟨b, o, he, hc⟩ := hrow.2 j u hj
        injection he with he; subst he
        rw [Addr.add_lit]; exact hc
      obtain ⟨v', w', hr, ho', hg, hnil, hblk⟩ := run_append_own_at (P := P) w base t ty e ti z 1 bytes ht hinfo hz hs hby hzs (by omega) (.slice a l c) l xs hown ad m c2 ys (by rw [hrow.1]; omega) hcells h1 hmax hb hbase
      have hform : ∃ a' c', v' = .slice a' (l + m) c' := by
        rcases ho'.2 with ⟨rfl, h0⟩ | ⟨g, cap, cur, rfl, _⟩
        · exact ⟨none, 0, by rw [h0]⟩
        · exact ⟨_, _, rfl⟩
      obtain ⟨a', c', rfl⟩ := hform
      refine ⟨a', c', w', hr, ho', grown_chg_own hg, ?_, ?_⟩
      · rintro k ⟨ad', rfl, rfl⟩
        rcases hblk with hb | hb
        · cases a with
          | none => simp [Value.ownBlock] at hb
          | some aa => simp [Value.ownBlock] at hb; exact .inl ⟨aa, rfl, hb.symm⟩
        · simp [Value.ownBlock] at hb; exact .inr (by omega)
      · constructor
        · intro he; subst he
          have hlm : l + m = 0 := by
            rcases ho'.2 with ⟨_, h0⟩ | ⟨g, cap, cur, hv, _⟩
            · exact h0
            · injection hv with hv; cases hv
          have hv0 : (.slice none (l + m) c' : Value) = .slice none 0 0 := by
            rcases ho'.2 with ⟨hv, h0⟩ | ⟨g, cap, cur, hv, _⟩
            · exact hv
            · injection hv with hv; cases hv
          have := (hnil.1 hv0).1
          injection this with e1
          exact ⟨e1, by omega⟩
        · rintro ⟨rfl, rfl⟩
          have hl : l = 0 := by
            rcases hown.2 with ⟨_, h0⟩ | ⟨g, cap, cur, hv, _⟩
            · exact h0
            · injection hv with hv; cases hv
          have hc0 : c = 0 := by
            rcases hown.2 with ⟨hv, h0⟩ | ⟨g, cap, cur, hv, _⟩
            · injection hv
            · injection hv with hv; cases hv
          subst hl; subst hc0
          have := hnil.2 ⟨rfl, rfl⟩
          injection this
  obtain ⟨a', c', w', hr, h2, h3, h4, h5⟩ := key
  refine StepV.value (w' := w') ?_ (h a' c' w' h2 h3 h4 h5)
  simp only [execOp, resolve, invoke, builtin, Sem.run_bind, Sem.run_pure, Result.andThen_ok, List.map_toArray, List.map_cons, List.map_nil, hx, hy, hr]

/-! ## A literal slice -/

def idxFrom : Nat → List Value → List (Nat × Value)
  | _, [] => []
  | k, v :: r => (k, v) :: idxFrom (k + 1) r

theorem fill_idx : ∀ (vs : List Value) (pre : List Value) (z : Value), (∀ v ∈ vs, v.oneCell' = true) →
    Instr.fill (fun i => some (i * 1, 1)) (pre ++ List.replicate vs.length z).toArray (idxFrom pre.length vs) = some (pre ++ vs).toArray
  | [], pre, z, _ => by simp [idxFrom, Instr.fill]
  | v :: r, pre, z, h => by
    have hv : v.cells = #[v] := by have := h v (by simp); cases v <;> first | rfl | (cases this; done)
    have ih := fill_idx r (pre ++ [v]) z (fun u hu => h u (by simp [hu]))
    simp only [idxFrom, Instr.fill, hv]
    rw [if_neg (by simp)]
    have e : (#[v].zipIdx.foldl (fun cs (x : Value × Nat) => cs.setIfInBounds (pre.length * 1 + x.2) x.1) (pre ++ List.replicate (v :: r).length z).toArray) = ((pre ++ [v]) ++ List.replicate r.length z).toArray := by
      simp [List.replicate_succ, List.set_append]
    have e' : (Array.foldl (fun cs x => match x with | (c, j) => cs.setIfInBounds (pre.length * 1 + j) c) (pre ++ List.replicate (v :: r).length z).toArray #[v].zipIdx) = ((pre ++ [v]) ++ List.replicate r.length z).toArray := e
    rw [e']
    simpa using ih

theorem m_bsl {ty : TypeId} {pos : String} {aft : Array Edge} {gd : Option (Nat × Bool)} {t e : TypeId} {len : Nat} {parts : Array (Nat × Operand)} {z : Value} (vs : List Value)
    
    (ht : P.underlying t = some (.slice e)) (hs : ∀ w, (sizeOf e).run P w = .ok 1 w) (hz : ∀ w, (zeroValue e).run P w = .ok z w) (hz1 : z.oneCell' = true)
    (hp : parts.toList.map (fun p => (p.1, ev f p.2)) = idxFrom 0 vs) (hlen : vs.length = len) (hbig : Nat.ble len 1000 = true) (h1 : ∀ v ∈ vs, v.oneCell' = true)
    (h : ∀ w', Chg No w w' → w'.heap.size = w.heap.size + 1 → At w' w.heap.size (.cells vs.toArray e (0, 0)) → K (.slice (some ⟨w.heap.size, 0, none⟩) len len) w') : StepV P f ⟨ds, .buildSlice t len parts, ty, pos, aft, gd⟩ w K := by
  refine StepV.value (w' := w.alloc (.cells vs.toArray e)) ?_ (h _ (Chg.alloc _ w _) (by simp) (At.alloc w _))
  have hz' : z.cells = #[z] := by cases z <;> first | rfl | (cases hz1; done)
  have hpm : (parts.map fun (x : Nat × Operand) => (x.1, ev f x.2)).toList = idxFrom 0 vs := by rw [← hp]; simp
  have hle : len ≤ 1000 := Nat.le_of_ble_eq_true hbig
  have hfill := fill_idx vs [] z h1
  simp only [List.nil_append, List.length_nil, hlen] at hfill
  have hzz : (if len * 1 = 0 then (Pure.pure #[] : Sem (Array Value)) else do Pure.pure (← zeroValue e).cells).run P w = .ok (if len = 0 then #[] else #[z]) w := by
    by_cases h0 : len = 0
    · simp [h0]
    · simp [h0, hz, hz']
  have harr : ((Array.range (len * 1)).map ((if len = 0 then #[] else #[z])[· % (if len = 0 then (#[] : Array Value) else #[z]).size]!)) = (List.replicate len z).toArray := by
    by_cases h0 : len = 0
    · simp [h0]
    · simp only [h0, if_false]
      apply Array.ext'
      simp [Array.toList_range, Nat.mod_one, List.map_const']
  simp only [execOp, Sem.run_bind]
  rw [show (Instr.buildSlice t len (parts.map fun (x : Nat × Operand) => (x.1, ev f x.2))).run P w = .ok (.slice (some ⟨w.heap.size, 0, none⟩) len len) (w.alloc (.cells vs.toArray e)) from ?_]
  · rfl
  · unfold Instr.buildSlice
    simp only [Sem.run_bind, run_underlying ht, Result.andThen_ok, hs]
    rw [if_neg (by omega)]
    by_cases h0 : len = 0
    · subst h0
      simp only [List.replicate_zero] at hfill
      simp only [Nat.zero_mul, if_true, Sem.run_bind, Sem.run_pure, Result.andThen_ok, hpm]
      rw [show ∀ g : Nat → Value, (Array.range 0).map g = [].toArray from fun g => by simp, hfill]
      simp [newRow]
    · simp only [h0, if_false] at harr
      rw [if_neg (by omega)]
      simp only [Sem.run_bind, hz, Sem.run_pure, Result.andThen_ok, hz', harr, hpm, hfill]
      simp [newRow]

/-! ## make of a slice -/

theorem m_mksl {ty : TypeId} {pos : String} {aft : Array Edge} {gd : Option (Nat × Bool)} {x y : Operand} {t e : TypeId} {ti : TypeInfo} {z : Value} {bytes : Nat} {k1 k2 : IntKind} {l c : Int} (L C : Nat)
    
    (ht : P.underlying t = some (.slice e)) (hi : ∀ w, (typeInfo e).run P w = .ok ti w) (hz : ti.zero = some z) (hs : ti.size = 1) (hz1 : z.oneCell' = true) (hby : ti.bytes = bytes)
    (hx : ev f x = .int k1 l) (hy : ev f y = .int k2 c) (hL : l = L) (hC : c = C) (hlc : L ≤ C) (hb : bytes * C ≤ 281474976710656) (h63 : C ≤ 9223372036854775807)
    (h : ∀ w', Chg No w w' → w'.heap.size = w.heap.size + 1 → At w' w.heap.size (.cells (List.replicate C z).toArray e (0, 0)) → K (.slice (some ⟨w.heap.size, 0, none⟩) L C) w') : StepV P f ⟨ds, .makeSlice t x y, ty, pos, aft, gd⟩ w K := by
  subst hL; subst hC; subst hby
  have hz' : z.cells = #[z] := by cases z <;> first | rfl | (cases hz1; done)
  have hr := run_make (P := P) w t e ti z ht (info_of hi) hz k1 k2 (L : Int) (C : Int) (by omega) (by omega) (by exact Int.ofNat_le.2 hb) (by omega)
  have hcells : madeCells z.cells ((C : Int).toNat * ti.size) = (List.replicate C z).toArray := by
    rw [hs, hz']
    apply Array.ext'
    simp only [madeCells]
    by_cases h0 : C = 0
    · subst h0; simp
    · simp [Nat.mod_one, List.map_const']
  rw [hcells] at hr
  refine StepV.value (w' := w.alloc (.cells (List.replicate C z).toArray e)) ?_ (h _ (Chg.alloc _ w _) (by simp) (At.alloc w _))
  simp only [execOp, hx, hy, Sem.run_bind, hr, Result.andThen_ok, Sem.run_pure]
  rfl

/-! ## Cutting a slice -/

def cutAt (mx lo : Nat) (a : Option Addr) : Option Addr := if mx = lo then a else a.map (·.add (lo * 1))
theorem cutAt_some {mx lo b o : Nat} (h : lo < mx) : cutAt mx lo (some ⟨b, o, none⟩) = some ⟨b, o + lo, none⟩ := by
  unfold cutAt; rw [if_neg (by omega)]; simp [Addr.add_lit]
theorem cutAt_blk {mx lo k : Nat} {a : Option Addr} (hk : isBlk (cutAt mx lo a) k) : isBlk a k := by
  unfold cutAt at hk
  split at hk
  · exact hk
  · obtain ⟨ad, he, hb⟩ := hk
    cases a with
    | none => simp at he
    | some aa =>
      simp at he
      refine ⟨aa, rfl, ?_⟩
      rw [← hb, ← he]
      unfold Addr.add; split <;> rfl
theorem cutAt_none {mx lo : Nat} {a : Option Addr} : cutAt mx lo a = none ↔ a = none := by
  unfold cutAt; split
  · exact Iff.rfl
  · cases a <;> simp
theorem cutAt_zero {mx : Nat} {a : Option Addr} : cutAt mx 0 a = a := by
  unfold cutAt; split
  · rfl
  · cases a <;> simp [Addr.add]
theorem Row.cut {w : World} {a : Option Addr} {l lo hi mx : Nat} {xs : List Value} (h : Row w a l xs) (h1 : lo ≤ hi) (h2 : hi ≤ l) (h3 : hi ≤ mx) : Row w (cutAt mx lo a) (hi - lo) ((xs.take hi).drop lo) :=
  h.sub h1 h2 fun b o e hlt => by subst e; exact cutAt_some (by omega)

def BoundIs (f : Fr) (x : Option Operand) (dflt v top : Nat) : Prop := match x with | none => v = dflt | some y => ∃ k j, ev f y = .int k j ∧ j = (v : Int) ∧ v ≤ top

theorem run_cut {xl xh xm : Option Operand} {t e l c : Nat} {a : Option Addr} (lo hi mx : Nat) (ht : P.underlying t = some (.slice e)) (hs : ∀ w, (sizeOf e).run P w = .ok 1 w)
    (hmx : BoundIs f xm c mx c) (hhi : BoundIs f xh l hi mx) (hboth : xh = none → xm = none) (hlo : BoundIs f xl 0 lo hi) :
    (Instr.sliceAt t (.slice a l c) (xl.map (ev f)) (xh.map (ev f)) (xm.map (ev f))).run P w = .ok (.slice (cutAt mx lo a) (hi - lo) (mx - lo)) w := by
  have hb : ∀ (k : IntKind) (j : Int) (m top : Nat) (code : BoundsCode), j = (m : Int) → m ≤ top → (Instr.sliceBound (.int k j) top code).run P w = .ok m w := by
    intro k j m top code hj hm
    subst hj
    simp only [Instr.sliceBound, asIntOf, Sem.run_bind, Sem.run_pure, Result.andThen_ok]
    rw [if_pos ⟨by omega, by omega⟩]
    simp
  have hbounds : (Instr.sliceBounds true l c (xl.map (ev f)) (xh.map (ev f)) (xm.map (ev f))).run P w = .ok (lo, hi, mx) w := by
    unfold Instr.sliceBounds
    cases xm with
    | none =>
      simp only [BoundIs] at hmx; subst hmx
      cases xh with
      | none =>
        simp only [BoundIs] at hhi; subst hhi
        cases xl with
        | none => simp only [BoundIs] at hlo; subst hlo; simp
        | some y => simp only [BoundIs] at hlo; obtain ⟨k, j, he, hj, hle⟩ := hlo; simp [he, hb k j lo hi _ hj hle]
      | some y2 =>
        simp only [BoundIs] at hhi; obtain ⟨k2, j2, he2, hj2, hle2⟩ := hhi
        cases xl with
        | none => simp only [BoundIs] at hlo; subst hlo; simp [he2, hb k2 j2 hi _ _ hj2 hle2]
        | some y => simp only [BoundIs] at hlo; obtain ⟨k, j, he, hj, hle⟩ := hlo; simp [he, he2, hb k2 j2 hi _ _ hj2 hle2, hb k j lo hi _ hj hle]
    | some y3 =>
      simp only [BoundIs] at hmx; obtain ⟨k3, j3, he3, hj3, hle3⟩ := hmx
      cases xh with
      | none => exact absurd (hboth rfl) (by simp)
      | some y2 =>
        simp only [BoundIs] at hhi; obtain ⟨k2, j2, he2, hj2, hle2⟩ := hhi
        cases xl with
        | none => simp only [BoundIs] at hlo; subst hlo; simp [he2, he3, hb k2 j2 hi _ _ hj2 hle2, hb k3 j3 mx _ _ hj3 hle3]
        | some y => simp only [BoundIs] at hlo; obtain ⟨k, j, he, hj, hle⟩ := hlo; simp [he, he2, he3, hb k2 j2 hi _ _ hj2 hle2, hb k j lo hi _ hj hle, hb k3 j3 mx _ _ hj3 hle3]
  simp only [Sem.run_bind, Instr.sliceAt, run_underlying ht, Result.andThen_ok, Instr.slice, hbounds, hs, Sem.run_pure, cutAt]

theorem o_cut {d : Nat} {ty : TypeId} {pos : String} {aft : Array Edge} {gd : Option (Nat × Bool)} {x : Operand} {xl xh xm : Option Operand} {t e : TypeId} {a : Option Addr} {l c : Nat} (lo hi mx : Nat)
    (ho : ops.toList[i]? = some ⟨some d, .slice t x xl xh xm, ty, pos, aft, gd⟩) (hw : wantedX ops n f gd = true) (hd : Nat.blt d n = true)
    (ht : P.underlying t = some (.slice e)) (hs : ∀ w, (sizeOf e).run P w = .ok 1 w) (hx : ev f x = .slice a l c) (hboth : xh = none → xm = none)
    (hmx : BoundIs f xm c mx c) (hhi : BoundIs f xh l hi mx) (hlo : BoundIs f xl 0 lo hi)
    (h : XO P n ops Q (i + 1) (up f d (.slice (cutAt mx lo a) (hi - lo) (mx - lo))) w) : XO P n ops Q i f w := by
  refine XO_val (w' := w) ho hw rfl hd ?_ h
  simp only [execOp, Sem.run_bind, hx, run_cut lo hi mx ht hs hmx hhi hboth hlo, Result.andThen_ok, Sem.run_pure]
theorem q_cut {d : Nat} {ty : TypeId} {pos : String} {aft : Array Edge} {gd : Option (Nat × Bool)} {x : Operand} {xl xh xm : Option Operand} {t e : TypeId} {a : Option Addr} {l c : Nat} (lo hi mx : Nat)
    (ho : ops.toList[i]? = some ⟨some d, .slice t x xl xh xm, ty, pos, aft, gd⟩) (hw : wantedX ops n f gd = true) (hd : Nat.blt d n = true) (hok : takeOk ops listed i = true)
    (ht : P.underlying t = some (.slice e)) (hs : ∀ w, (sizeOf e).run P w = .ok 1 w) (hx : ev f x = .slice a l c) (hboth : xh = none → xm = none)
    (hmx : BoundIs f xm c mx c) (hhi : BoundIs f xh l hi mx) (hlo : BoundIs f xl 0 lo hi)
    (h : S w → XH P n ops KK S kk (listed.setIfInBounds i true) (up f d (.slice (cutAt mx lo a) (hi - lo) (mx - lo))) w) (hSw : S w) : XH P n ops KK S (kk + 1) listed f w :=
  XH_take ho hw rfl hd hok (fun w hS => by simp only [execOp, Sem.run_bind, hx, run_cut lo hi mx ht hs hmx hhi hboth hlo, Result.andThen_ok, Sem.run_pure]) h hSw
end
end Go.Proofs.Ytijjnlfmlcbfpaa

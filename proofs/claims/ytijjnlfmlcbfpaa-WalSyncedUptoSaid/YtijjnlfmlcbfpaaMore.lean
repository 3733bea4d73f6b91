/- More rules: building structs, storing them, copy, the entry at which an iterator stands. Holds for every program. -/
import Derived.Test.YtijjnlfmlcbfpaaMaps
import Derived.Laws.Tables
import Derived.Laws.BytesString
import Derived.Laws.BytesArg
import Derived.Laws.Strings
set_option linter.unusedSimpArgs false
set_option linter.unusedVariables false
namespace Go.Proofs.Ytijjnlfmlcbfpaa
open Go

/-! ## Rows of cells that are overwritten -/

theorem setRow_at {w : World} {g : Nat} {old : Array Value} {t : TypeId} {z : Nat × Nat} (h : At w g (.cells old t z)) (cs : Array Value) : At (w.setRow g cs) g (.cells cs t z) := setRow_heap w g old cs t z h
theorem setRow_chg (w : World) (g : Nat) (cs : Array Value) : Chg (fun k => k = g) w (w.setRow g cs) :=
  ⟨rfl, rfl, rfl, by simp [World.setRow], fun b _ hn => by
    simp only [World.setRow, Array.getElem?_modify]
    rw [if_neg (fun (e : g = b) => hn e.symm)]⟩
theorem setRow_size (w : World) (g : Nat) (cs : Array Value) : (w.setRow g cs).heap.size = w.heap.size := by simp [World.setRow]

/-- L with the cells from place o on replaced by vs. -/
def over (L : List Value) (o : Nat) (vs : List Value) : List Value := L.take o ++ vs ++ L.drop (o + vs.length)
theorem over_len {L : List Value} {o : Nat} {vs : List Value} (h : o + vs.length ≤ L.length) : (over L o vs).length = L.length := by simp [over]; omega
theorem over_all {L vs : List Value} (h : vs.length = L.length) : over L 0 vs = vs := by simp [over, h]

section
variable {P : Program} {n : Nat} {Q : Exit → Fr → World → Prop} {f : Fr} {w : World} {ops : Array Oper} {i : Nat} {KK : Fr → World → Prop} {S : World → Prop} {kk : Nat} {listed : Array Bool} {K : Value → World → Prop} {ds : Option Nat}


/-! ## Building a struct -/

def fieldPlaces (P : Program) (t : TypeId) : Option (List (Nat × Nat)) :=
  match P.underlying t with
  | some (.struct fs) => fs.toList.mapM fun f => (P.info? f.type).map fun i => (f.offset, i.size)
  | _ => none
def setMany : List Value → Nat → List Value → List Value
  | l, _, [] => l
  | l, o, v :: r => setMany (l.set o v) (o + 1) r
def fillL (pl : List (Nat × Nat)) : List Value → List (Nat × Value) → Option (List Value)
  | cs, [] => some cs
  | cs, (i, v) :: r =>
    match pl[i]? with
    | none => none
    | some (off, size) => if v.cells.toList.length ≠ size ∨ off + v.cells.toList.length > cs.length then none else fillL pl (setMany cs off v.cells.toList) r

theorem setMany_len : ∀ (vs l : List Value) (o : Nat), (setMany l o vs).length = l.length
  | [], l, o => rfl
  | v :: r, l, o => by simp [setMany, setMany_len r]
theorem foldl_setMany (off : Nat) : ∀ (vs : List Value) (k : Nat) (cs : Array Value), List.foldl (fun (cs : Array Value) (x : Value × Nat) => cs.setIfInBounds (off + x.2) x.1) cs (vs.zipIdx k) = (setMany cs.toList (off + k) vs).toArray
  | [], k, cs => by simp [setMany]
  | v :: r, k, cs => by
    simp only [List.zipIdx_cons, List.foldl_cons, setMany]
    rw [foldl_setMany off r (k + 1)]
    simp [Nat.add_assoc]
theorem fill_fillL (pl : List (Nat × Nat)) : ∀ (ps : List (Nat × Value)) (cs : List Value), Instr.fill (fun i => pl[i]?) cs.toArray ps = (fillL pl cs ps).map List.toArray
  | [], cs => rfl
  | (i, v) :: r, cs => by
    unfold Instr.fill fillL
    cases h : pl[i]? with
    | none => rfl
    | some os =>
      obtain ⟨off, size⟩ := os
      simp only
      by_cases hc : v.cells.toList.length ≠ size ∨ off + v.cells.toList.length > cs.length
      · rw [if_pos (by simpa using hc), if_pos hc]; rfl
      · rw [if_neg (by simpa using hc), if_neg hc]
        have := foldl_setMany off v.cells.toList 0 cs.toArray
        have e : (Array.foldl (fun (cs : Array Value) x => match x with | (c, j) => cs.setIfInBounds (off + j) c) cs.toArray v.cells.zipIdx) = (setMany cs off v.cells.toList).toArray := by
          rw [← Array.foldl_toList]
          simpa using this
        rw [e]
        exact fill_fillL pl r _

theorem run_places {fs : Array Field} {pl : List (Nat × Nat)} : ∀ (l : List Field) (pl : List (Nat × Nat)), (l.mapM fun f => (P.info? f.type).map fun i => (f.offset, i.size)) = some pl →
    (l.mapM (m := Sem) fun f => do pure (f.offset, ← sizeOf f.type)).run P w = .ok pl w
  | [], pl, h => by simp at h; subst h; simp
  | x :: l, pl, h => by
    simp only [List.mapM_cons] at h ⊢
    cases hx : P.info? x.type with
    | none => simp [hx] at h
    | some ix =>
      cases hr : l.mapM fun f => (P.info? f.type).map fun i => (f.offset, i.size) with
      | none => simp [hx, hr] at h
      | some r =>
        simp [hx, hr] at h
        subst h
        have ih := run_places (fs := fs) (pl := pl) l r hr
        have h1 : (sizeOf x.type).run P w = .ok ix.size w := by simp [sizeOf, typeInfo, hx]
        simp only [Sem.run_bind, h1, Result.andThen_ok, Sem.run_pure, ih]

theorem run_build {t : TypeId} {z : Value} {pl : List (Nat × Nat)} (hpl : fieldPlaces P t = some pl) (hz : ∀ w, (zeroValue t).run P w = .ok z w) (ps : List (Nat × Value)) (cells : List Value) (hf : fillL pl z.cells.toList ps = some cells) :
    (Instr.build t ps.toArray).run P w = .ok (.agg cells.toArray) w := by
  unfold fieldPlaces at hpl
  cases hu : P.underlying t with
  | none => rw [hu] at hpl; cases hpl
  | some u =>
    rw [hu] at hpl
    cases u <;> first | (cases hpl; done) | skip
    rename_i fs
    have hm := run_places (P := P) (w := w) (fs := fs) (pl := pl) fs.toList pl hpl
    have hm' : (fs.mapM (m := Sem) fun f => do pure (f.offset, ← sizeOf f.type)).run P w = .ok pl.toArray w := by
      have e : fs = fs.toList.toArray := by simp
      rw [e, List.mapM_toArray]
      simp only [Sem.run_map]
      rw [hm]; rfl
    have hfl := fill_fillL pl ps z.cells.toList
    rw [hf] at hfl
    simp only [Array.toArray_toList, Option.map_some] at hfl
    have hfn : (fun (i : Nat) => pl.toArray[i]?) = fun (i : Nat) => pl[i]? := by funext i; simp
    simp only [Instr.build, Sem.run_bind, hz, Result.andThen_ok, run_underlying hu, hm', hfn, hfl, Sem.run_pure]

theorem o_build {d : Nat} {ty : TypeId} {pos : String} {aft : Array Edge} {gd : Option (Nat × Bool)} {t : TypeId} {z : Value} {pl : List (Nat × Nat)} {parts : Array (Nat × Operand)} {ps : List (Nat × Value)} (cells : List Value)
    (ho : ops.toList[i]? = some ⟨some d, .build t parts, ty, pos, aft, gd⟩) (hw : wantedX ops n f gd = true) (hd : Nat.blt d n = true)
    (hpl : fieldPlaces P t = some pl) (hz : ∀ w, (zeroValue t).run P w = .ok z w) (hp : parts.toList.map (fun p => (p.1, ev f p.2)) = ps) (hf : fillL pl z.cells.toList ps = some cells)
    (h : XO P n ops Q (i + 1) (up f d (.agg cells.toArray)) w) : XO P n ops Q i f w := by
  refine XO_val ho hw rfl hd ?_ h
  have hpm : (parts.map fun (x : Nat × Operand) => (x.1, ev f x.2)) = ps.toArray := by rw [← hp]; apply Array.ext'; simp
  have hr := run_build (P := P) (w := w) hpl hz ps cells hf
  simp only [execOp, Sem.run_bind]
  rw [show (Instr.build t (parts.map fun (x : Nat × Operand) => (x.1, ev f x.2))).run P w = _ from hpm ▸ hr]
  rfl
theorem q_build {d : Nat} {ty : TypeId} {pos : String} {aft : Array Edge} {gd : Option (Nat × Bool)} {t : TypeId} {z : Value} {pl : List (Nat × Nat)} {parts : Array (Nat × Operand)} {ps : List (Nat × Value)} (cells : List Value)
    (ho : ops.toList[i]? = some ⟨some d, .build t parts, ty, pos, aft, gd⟩) (hw : wantedX ops n f gd = true) (hd : Nat.blt d n = true) (hok : takeOk ops listed i = true)
    (hpl : fieldPlaces P t = some pl) (hz : ∀ w, (zeroValue t).run P w = .ok z w) (hp : parts.toList.map (fun p => (p.1, ev f p.2)) = ps) (hf : fillL pl z.cells.toList ps = some cells)
    (h : S w → XH P n ops KK S kk (listed.setIfInBounds i true) (up f d (.agg cells.toArray)) w) (hSw : S w) : XH P n ops KK S (kk + 1) listed f w := by
  refine XH_take ho hw rfl hd hok (fun w hS => ?_) h hSw
  have hpm : (parts.map fun (x : Nat × Operand) => (x.1, ev f x.2)) = ps.toArray := by rw [← hp]; apply Array.ext'; simp
  have hr := run_build (P := P) (w := w) hpl hz ps cells hf
  simp only [execOp, Sem.run_bind]
  rw [show (Instr.build t (parts.map fun (x : Nat × Operand) => (x.1, ev f x.2))).run P w = _ from hpm ▸ hr]
  rfl

/-! ## A struct stored; copy -/

theorem m_stA {ty : TypeId} {pos : String} {aft : Array Edge} {g : Option (Nat × Bool)} {t T : TypeId} {x y : Operand} {b o : Nat} {cs : Array Value} {sz : Nat} (vs : List Value)
    (ht : ∀ w, (sizeOf t).run P w = .ok sz w) (hx : ev f x = .pointer (some ⟨b, o, none⟩)) (hy : ev f y = .agg vs.toArray) (hlen : vs.length = sz) (h1 : ∀ v ∈ vs, v.oneCell' = true) (hB : At w b (.cells cs T (0, 0))) (hlt : o + vs.length ≤ cs.size)
    (h : ∀ w', Chg (fun k => k = b) w w' → w'.heap.size = w.heap.size → At w' b (.cells (over cs.toList o vs).toArray T (0, 0)) → K undef w') : StepV P f ⟨ds, .store t x y, ty, pos, aft, g⟩ w K := by
  have hst := run_storeCells_at P b o T vs 0 cs w hB (by simpa using hlt) h1
  refine StepV.skip (w' := w.setRow b (over cs.toList o vs).toArray) ?_ (h _ (setRow_chg _ _ _) (setRow_size _ _ _) (setRow_at hB _))
  simp only [execOp, hx, hy, Instr.storeAt, Instr.sureAddr, storeVar, Value.cells, Sem.run_bind, Sem.run_pure, Result.andThen_ok, ht, List.size_toArray, hlen]
  rw [if_neg (by simp)]
  rw [hst]
  simp [over]

theorem run_copy_gen {dT sT ty e : TypeId} {b o dl dc sl sc : Nat} {cs : Array Value} {T : TypeId} {a : Option Addr} {ys : List Value} (hu : P.underlying dT = some (.slice e)) (hs : ∀ w, (sizeOf e).run P w = .ok 1 w)
    (hB : At w b (.cells cs T (0, 0))) (hrow : Row w a sl ys) (hone : ∀ u ∈ ys, u.oneCell' = true) (hfit : o + min sl dl ≤ cs.size) :
    (Builtin.copy_ #[dT, sT] ty #[.slice (some ⟨b, o, none⟩) dl dc, .slice a sl sc]).run P w = .ok (.int .i64 ((min sl dl : Nat) : Int)) (w.setRow b (over cs.toList o (ys.take (min sl dl))).toArray) := by
  have hlen : (ys.take (min sl dl)).length = min sl dl := by rw [List.length_take, hrow.1]; omega
  have hst := run_storeCells_at P b o T (ys.take (min sl dl)) 0 cs w hB (by rw [hlen]; simpa using hfit) (fun v hv => hone v (List.mem_of_mem_take hv))
  have hfc : (Builtin.firstCells 1 (min sl dl) (.slice a sl sc)).run P w = .ok (ys.take (min sl dl)).toArray w := by
    cases a with
    | none =>
      have h0 : ys = [] := by
        cases hy : ys with
        | nil => rfl
        | cons y r =>
          obtain ⟨b', o', he, _⟩ := hrow.2 0 y (by rw [hy]; rfl)
          cases he
      simp [Builtin.firstCells, h0]
    | some ad =>
      refine run_firstCells_some w 1 (min sl dl) ad sl sc _ (by rw [hlen]; omega) fun j v hj => ?_
      have hj' : ys[j]? = some v := by
        rw [List.getElem?_take] at hj; split at hj
        · exact hj
        · cases hj
      obtain ⟨b', o', he, hc⟩ := hrow.2 j v hj'
      injection he with he; subst he
      rw [Addr.add_lit]; exact hc
  simp only [Builtin.copy_, Sem.run_bind, run_underlying hu, Result.andThen_ok, Builtin.lenOf, Sem.run_pure, hs, List.getElem?_toArray, List.getElem?_cons_zero, List.getElem?_cons_succ]
  rw [show Nat.min sl dl = min sl dl from rfl, hfc]
  simp only [Result.andThen_ok]
  rw [hst]
  simp [goInt, over]

theorem m_copy {ty : TypeId} {pos : String} {aft : Array Edge} {gd : Option (Nat × Bool)} {x y : Operand} {dT sT e : TypeId} {b o dl dc sl sc : Nat} {cs : Array Value} {T : TypeId} {a : Option Addr} {ys : List Value} (m : Nat)
    (hu : P.underlying dT = some (.slice e)) (hs : ∀ w, (sizeOf e).run P w = .ok 1 w) (hx : ev f x = .slice (some ⟨b, o, none⟩) dl dc) (hy : ev f y = .slice a sl sc)
    (hB : At w b (.cells cs T (0, 0))) (hrow : Row w a sl ys) (hone : ∀ u ∈ ys, u.oneCell' = true) (hm : min sl dl = m) (hfit : o + m ≤ cs.size)
    (h : ∀ w', Chg (fun k => k = b) w w' → w'.heap.size = w.heap.size → At w' b (.cells (over cs.toList o (ys.take m)).toArray T (0, 0)) → K (.int .i64 (m : Int)) w') : StepV P f ⟨ds, .call ⟨.builtin .copy, #[x, y], #[dT, sT]⟩, ty, pos, aft, gd⟩ w K := by
  subst hm
  have hr := run_copy_gen (P := P) (ty := ty) (dc := dc) (sc := sc) (sT := sT) hu hs hB hrow hone hfit
  refine StepV.value (w' := w.setRow b (over cs.toList o (ys.take (min sl dl))).toArray) ?_ (h _ (setRow_chg _ _ _) (setRow_size _ _ _) (setRow_at hB _))
  simp only [execOp, resolve, invoke, builtin, Sem.run_bind, Sem.run_pure, Result.andThen_ok, List.map_toArray, List.map_cons, List.map_nil, hx, hy, hr]

/-! ## append(nil, make([]T, m)...) -/

theorem m_appz {ty : TypeId} {pos : String} {aft : Array Edge} {gd : Option (Nat × Bool)} {x y : Operand} {t t2 e : TypeId} {k2 k3 : IntKind} {ti : TypeInfo} {z : Value} {bytes : Nat} {m : Int} (M : Nat)
    (ht : P.underlying t = some (.slice e)) (ht2 : P.underlying t2 = some (.int k2)) (hi : ∀ w, (typeInfo e).run P w = .ok ti w) (hz : ti.zero = some z) (hs : ti.size = 1) (hz1 : z.oneCell' = true) (hby : ti.bytes = bytes)
    (hx : ev f x = .slice none 0 0) (hy : ev f y = .int k3 m) (hm : m = (M : Int)) (hpos : 0 < M) (hb : M * bytes ≤ 281474976710656) (h63 : M ≤ 9223372036854775807)
    (h : ∀ c' w', w'.ownsRow w.heap.size e 1 (.slice (some ⟨w.heap.size, 0, none⟩) M c') M (List.replicate M z) → Chg No w w' → w'.heap.size = w.heap.size + 1 → K (.slice (some ⟨w.heap.size, 0, none⟩) M c') w') : StepV P f ⟨ds, .call ⟨.builtin .append, #[x, y], #[t, t2]⟩, ty, pos, aft, gd⟩ w K := by
  subst hm; subst hby
  have hinfo := info_of hi
  have hz' : z.cells = #[z] := by cases z <;> first | rfl | (cases hz1; done)
  have hzv : (zeroValue e).run P w.drew = .ok z w.drew := by simp [zeroValue, typeInfo, hinfo, hz]
  obtain ⟨c', hc'⟩ : ∃ c', c' = Question.cut (.appendCap M 0 e) (w.tape w.drawn (.appendCap M 0 e)) := ⟨_, rfl⟩
  have hcM : M ≤ c' := by rw [hc']; simp only [Question.cut]; omega
  have hc63 : c' ≤ maxLen := by
    rw [hc']; simp only [Question.cut]
    unfold maxLen
    have : w.tape w.drawn (.appendCap M 0 e) % (2 ^ 63 - M) < 2 ^ 63 - M := Nat.mod_lt _ (by omega)
    omega
  have hzc : ∀ q : Nat, Builtin.zeroCells #[z] q = (List.replicate q z).toArray := by
    intro q
    apply Array.ext'
    simp [Builtin.zeroCells, Nat.mod_one, List.map_const']
  have hrun : (Builtin.append_ #[t, t2] ty #[.slice none 0 0, .int k3 (M : Int)]).run P w = .ok (.slice (some ⟨w.heap.size, 0, none⟩) M c') (w.drew.alloc (.cells (List.replicate c' z).toArray e)) := by
    have hw64 : IntKind.i64.wrap (M : Int) = M := in64 (by omega) (by omega)
    have hch : (choose (.appendCap M 0 e)).run P w = .ok c' w.drew := by rw [run_choose, hc']; rfl
    have hncap : Builtin.nextslicecap M 0 = M := by unfold Builtin.nextslicecap; rw [if_pos (by omega)]
    simp only [Builtin.append_, Sem.run_bind, run_underlying ht, run_underlying ht2, Result.andThen_ok, sizeOf, hi, hs, Sem.run_pure, List.getElem?_toArray, List.getElem?_cons_zero, List.getElem?_cons_succ, asInt, asIntOf, if_true, hw64]
    rw [if_neg (by omega)]
    simp only [Sem.run_bind, hi, Result.andThen_ok]
    have hbI : (M : Int) * (ti.bytes : Int) ≤ 281474976710656 := by exact Int.ofNat_le.2 hb
    rw [if_neg (by omega)]
    simp only [Int.toNat_natCast, Sem.run_bind, Sem.run_pure, Result.andThen_ok, Nat.zero_add]
    rw [if_neg (by omega)]
    simp only [Sem.run_bind, hi, Result.andThen_ok]
    rw [if_neg (by intro h; have := h.1; rw [IntKind.max_i64] at this; omega)]
    simp only [Sem.run_bind, hi, Result.andThen_ok, hncap]
    rw [if_neg (by omega)]
    simp only [Sem.run_bind, hch, Result.andThen_ok, hi, run_askRoom, Builtin.firstCells, Sem.run_pure, Bool.not_true, Bool.false_eq_true, if_false, Nat.mul_one]
    rw [if_neg (by omega)]
    simp only [Sem.run_bind, hzv, Result.andThen_ok, Sem.run_pure, hz', hzc, newRow, run_newObj]
    have e2 : (#[] ++ (List.replicate M z).toArray ++ (List.replicate (c' - M) z).toArray : Array Value) = (List.replicate c' z).toArray := by
      apply Array.ext'
      simp only [Array.toList_append, List.nil_append]
      rw [List.replicate_append_replicate]; congr 1; omega
    rw [e2]; rfl
  refine StepV.value (w' := w.drew.alloc (.cells (List.replicate c' z).toArray e)) ?_ (h c' _ ⟨by simp, .inr ⟨w.heap.size, c', (List.replicate c' z).toArray, rfl, Nat.le_refl _, At.alloc w.drew _, hcM, hc63, by simp, ?_⟩⟩ ((Chg.drew No w).trans (Chg.alloc No w.drew _)) (by simp))
  · simp only [execOp, resolve, invoke, builtin, Sem.run_bind, Sem.run_pure, Result.andThen_ok, List.map_toArray, List.map_cons, List.map_nil, hx, hy, hrun]
  · simp only [Nat.mul_one]; rw [List.take_replicate]; congr 1; omega

/-! ## Bytes as a string, strings compared -/

def strOf (bs : List Int) : ByteArray := ⟨(bs.map fun n => UInt8.ofNat n.toNat).toArray⟩
theorem strOf_fold (bs : List Int) : bs.foldl (fun r n => r.push (UInt8.ofNat n.toNat)) ByteArray.empty = strOf bs := by
  rw [foldl_push_bytes]
  simp [strOf, ByteArray.empty, ByteArray.emptyWithCapacity]; rfl
def Okb (bs : List Int) : Prop := ∀ x ∈ bs, 0 ≤ x ∧ x ≤ 255
theorem strOf_eq {x y : List Int} (hx : Okb x) (hy : Okb y) : ((strOf x).toList == (strOf y).toList) = decide (x = y) := by
  have key : ∀ (x y : List Int), Okb x → Okb y → ((x.map fun n => UInt8.ofNat n.toNat) = (y.map fun n => UInt8.ofNat n.toNat) ↔ x = y) := by
    intro x
    induction x with
    | nil => intro y _ _; cases y <;> simp
    | cons a l ih =>
      intro y hx hy
      cases y with
      | nil => simp
      | cons b r =>
        have ha := hx a (by simp)
        have hb := hy b (by simp)
        simp only [List.map_cons, List.cons.injEq, ih r (fun u hu => hx u (by simp [hu])) (fun u hu => hy u (by simp [hu]))]
        constructor
        · rintro ⟨h1, h2⟩
          refine ⟨?_, h2⟩
          have h3 := congrArg UInt8.toNat h1
          simp only [UInt8.toNat_ofNat'] at h3
          omega
        · rintro ⟨rfl, rfl⟩; exact ⟨rfl, rfl⟩
  have hk := key x y hx hy
  rw [show (strOf x).toList = _ from ByteArray.toList_mk _, show (strOf y).toList = _ from ByteArray.toList_mk _]
  by_cases h : x = y
  · subst h; simp
  · have : ¬ (x.map fun n => UInt8.ofNat n.toNat) = (y.map fun n => UInt8.ofNat n.toNat) := fun e => h (hk.1 e)
    simp [h, this]

theorem o_b2s {d : Nat} {ty : TypeId} {pos : String} {aft : Array Edge} {g : Option (Nat × Bool)} {x : Operand} {s t e : TypeId} {a : Option Addr} {l c : Nat} {bs : List Int} (ho : ops.toList[i]? = some ⟨some d, .convert s t x, ty, pos, aft, g⟩) (hw : wantedX ops n f g = true) (hd : Nat.blt d n = true)
    (hs : P.underlying s = some (.slice e)) (he : P.underlying e = some (.int .u8)) (ht : P.underlying t = some .string) (hx : ev f x = .slice a l c) (hr : Row w a l (bs.map (Value.int .u8)))
    (h : XO P n ops Q (i + 1) (up f d (.string (strOf bs))) w) : XO P n ops Q i f w := by
  refine XO_val ho hw rfl hd ?_ h
  simp only [execOp, hx, Sem.run_bind, run_convert_bytes_string w s t e a l c hs he ht]
  cases a with
  | none =>
    have : bs = [] := by
      cases hb : bs with
      | nil => rfl
      | cons y r => obtain ⟨b, o, he, _⟩ := hr.2 0 (.int .u8 y) (by rw [hb]; rfl); cases he
    subst this
    simp [Conv.bytesToString, strOf]; rfl
  | some ad =>
    have hl : (loadCells ad l).run P w = .ok (bs.map (Value.int .u8)).toArray w := by
      have hlen : (bs.map (Value.int .u8)).length = l := hr.1
      rw [← hlen]
      refine run_loadCells_list w ad _ fun j v hj => ?_
      obtain ⟨b, o, he, hc⟩ := hr.2 j v hj
      injection he with he; subst he
      rw [Addr.add_lit]; exact hc
    rw [run_bytesToString w ad l c bs hl, strOf_fold]
    rfl
theorem o_eqstr {d : Nat} {ty : TypeId} {pos : String} {aft : Array Edge} {g : Option (Nat × Bool)} {x y : Operand} {t t' : TypeId} {a b : ByteArray} (r : Bool) (ho : ops.toList[i]? = some ⟨some d, .binOp .eql t x y t', ty, pos, aft, g⟩) (hw : wantedX ops n f g = true) (hd : Nat.blt d n = true)
    (hx : ev f x = .string a) (hy : ev f y = .string b) (hr : (a.toList == b.toList) = r) (h : XO P n ops Q (i + 1) (up f d (.bool r)) w) : XO P n ops Q i f w := by
  refine XO_val ho hw rfl hd ?_ h
  subst hr
  simp [execOp, hx, hy, eqGuard_at_string, binOp, Op.stringOp]
end
end Go.Proofs.Ytijjnlfmlcbfpaa

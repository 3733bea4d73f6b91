/- One rule for each operation of the translated code. Holds for every program. -/
import Derived.Test.YtijjnlfmlcbfpaaCore
import Derived.Laws.Slices
import Derived.Laws.Unary
set_option linter.unusedSimpArgs false
set_option linter.unusedVariables false
namespace Go.Proofs.Ytijjnlfmlcbfpaa
open Go
section
variable {P : Program} {n : Nat} {Q : Exit → Fr → World → Prop} {f : Fr} {w : World} {ops : Array Oper} {i : Nat} {KK : Fr → World → Prop} {S : World → Prop} {kk : Nat} {listed : Array Bool} {K : Value → World → Prop} {ds : Option Nat}

theorem in64 {x : Int} (h0 : -9223372036854775808 ≤ x) (h1 : x ≤ 9223372036854775807) : IntKind.i64.wrap x = x := by
  simp only [IntKind.wrap, IntKind.bits, IntKind.signed, Bool.true_and]
  split <;> simp_all <;> omega
theorem inu8 {x : Int} (h0 : 0 ≤ x) (h1 : x ≤ 255) : IntKind.u8.wrap x = x := by
  simp only [IntKind.wrap, IntKind.bits, IntKind.signed]; simp; omega
theorem inu32 {x : Int} (h0 : 0 ≤ x) (h1 : x ≤ 4294967295) : IntKind.u32.wrap x = x := by
  simp only [IntKind.wrap, IntKind.bits, IntKind.signed]; simp; omega
theorem inu64 {x : Int} (h0 : 0 ≤ x) (h1 : x ≤ 18446744073709551615) : IntKind.u64.wrap x = x := by
  simp only [IntKind.wrap, IntKind.bits, IntKind.signed]; simp; omega

theorem equal_b {t : TypeId} (ht : P.underlying t = some .bool) (a b : Bool) (w : World) : (Op.equal t (.bool a) (.bool b)).run P w = .ok (a == b) w := by
  have key : ∀ d, (Op.equalIn (d + 1) t (.bool a) (.bool b)).run P w = .ok (a == b) w := by intro d; simp [Op.equalIn, run_underlying ht]
  exact key 9999
theorem equal_p {t e : TypeId} (ht : P.underlying t = some (.pointer e)) (a : Option Addr) (w : World) : (Op.equal t (.pointer a) (.pointer none)).run P w = .ok a.isNone w := by
  have key : ∀ d, (Op.equalIn (d + 1) t (.pointer a) (.pointer none)).run P w = .ok a.isNone w := by intro d; cases a <;> simp [Op.equalIn, run_underlying ht]
  exact key 9999
theorem equal_sl {t e : TypeId} (ht : P.underlying t = some (.slice e)) (a : Option Addr) (l c : Nat) (w : World) : (Op.equal t (.slice a l c) (.slice none 0 0)).run P w = .ok a.isNone w := by
  have key : ∀ d, (Op.equalIn (d + 1) t (.slice a l c) (.slice none 0 0)).run P w = .ok a.isNone w := by intro d; cases a <;> simp [Op.equalIn, run_underlying ht]
  exact key 9999
theorem run_eql_b {t : TypeId} (ht : P.underlying t = some .bool) (a b : Bool) (w : World) : ((binOp .eql t (.bool a) (.bool b)).run P w).andThen (fun v w' => .ok (Next.value v) w') = .ok (.value (.bool (a == b))) w := by
  have e : binOp .eql t (.bool a) (.bool b) = (do pure (.bool (← Op.equal t (.bool a) (.bool b)))) := rfl
  rw [e, Sem.run_bind, equal_b ht]; rfl
theorem run_neq_b {t : TypeId} (ht : P.underlying t = some .bool) (a b : Bool) (w : World) : ((binOp .neq t (.bool a) (.bool b)).run P w).andThen (fun v w' => .ok (Next.value v) w') = .ok (.value (.bool (!(a == b)))) w := by
  have e : binOp .neq t (.bool a) (.bool b) = (do pure (.bool (!(← Op.equal t (.bool a) (.bool b))))) := rfl
  rw [e, Sem.run_bind, equal_b ht]; rfl
theorem run_eql_p {t e : TypeId} (ht : P.underlying t = some (.pointer e)) (a : Option Addr) (w : World) : ((binOp .eql t (.pointer a) (.pointer none)).run P w).andThen (fun v w' => .ok (Next.value v) w') = .ok (.value (.bool a.isNone)) w := by
  have e : binOp .eql t (.pointer a) (.pointer none) = (do pure (.bool (← Op.equal t (.pointer a) (.pointer none)))) := rfl
  rw [e, Sem.run_bind, equal_p ht]; rfl
theorem run_neq_p {t e : TypeId} (ht : P.underlying t = some (.pointer e)) (a : Option Addr) (w : World) : ((binOp .neq t (.pointer a) (.pointer none)).run P w).andThen (fun v w' => .ok (Next.value v) w') = .ok (.value (.bool (!a.isNone))) w := by
  have e : binOp .neq t (.pointer a) (.pointer none) = (do pure (.bool (!(← Op.equal t (.pointer a) (.pointer none))))) := rfl
  rw [e, Sem.run_bind, equal_p ht]; rfl
theorem run_eql_sl {t e : TypeId} (ht : P.underlying t = some (.slice e)) (a : Option Addr) (l c : Nat) (w : World) : ((binOp .eql t (.slice a l c) (.slice none 0 0)).run P w).andThen (fun v w' => .ok (Next.value v) w') = .ok (.value (.bool a.isNone)) w := by
  have e : binOp .eql t (.slice a l c) (.slice none 0 0) = (do pure (.bool (← Op.equal t (.slice a l c) (.slice none 0 0)))) := rfl
  rw [e, Sem.run_bind, equal_sl ht]; rfl
theorem run_neq_sl {t e : TypeId} (ht : P.underlying t = some (.slice e)) (a : Option Addr) (l c : Nat) (w : World) : ((binOp .neq t (.slice a l c) (.slice none 0 0)).run P w).andThen (fun v w' => .ok (Next.value v) w') = .ok (.value (.bool (!a.isNone))) w := by
  have e : binOp .neq t (.slice a l c) (.slice none 0 0) = (do pure (.bool (!(← Op.equal t (.slice a l c) (.slice none 0 0))))) := rfl
  rw [e, Sem.run_bind, equal_sl ht]; rfl

theorem o_mv {d : Nat} {ty : TypeId} {pos : String} {aft : Array Edge} {g : Option (Nat × Bool)} {x : Operand} (v : Value) (ho : ops.toList[i]? = some ⟨some d, .move x, ty, pos, aft, g⟩) (hw : wantedX ops n f g = true) (hd : Nat.blt d n = true) (hx : ev f x = v)
    (h : XO P n ops Q (i + 1) (up f d (v)) w) : XO P n ops Q i f w :=
  XO_val ho hw rfl hd (by simp [execOp, hx]) h
theorem q_mv {d : Nat} {ty : TypeId} {pos : String} {aft : Array Edge} {g : Option (Nat × Bool)} {x : Operand} (v : Value) (ho : ops.toList[i]? = some ⟨some d, .move x, ty, pos, aft, g⟩) (hw : wantedX ops n f g = true) (hd : Nat.blt d n = true) (hok : takeOk ops listed i = true) (hx : ev f x = v)
    (h : S w → XH P n ops KK S kk (listed.setIfInBounds i true) (up f d (v)) w) (hSw : S w) : XH P n ops KK S (kk + 1) listed f w :=
  XH_take ho hw rfl hd hok (fun w hS => by simp [execOp, hx]) h hSw
theorem o_as {d : Nat} {ty : TypeId} {pos : String} {aft : Array Edge} {g : Option (Nat × Bool)} {x : Operand} (v : Value) (ho : ops.toList[i]? = some ⟨some d, .assign x, ty, pos, aft, g⟩) (hw : wantedX ops n f g = true) (hd : Nat.blt d n = true) (hx : ev f x = v)
    (h : XO P n ops Q (i + 1) (up f d (v)) w) : XO P n ops Q i f w :=
  XO_val ho hw rfl hd (by simp [execOp, hx]) h
theorem q_as {d : Nat} {ty : TypeId} {pos : String} {aft : Array Edge} {g : Option (Nat × Bool)} {x : Operand} (v : Value) (ho : ops.toList[i]? = some ⟨some d, .assign x, ty, pos, aft, g⟩) (hw : wantedX ops n f g = true) (hd : Nat.blt d n = true) (hok : takeOk ops listed i = true) (hx : ev f x = v)
    (h : S w → XH P n ops KK S kk (listed.setIfInBounds i true) (up f d (v)) w) (hSw : S w) : XH P n ops KK S (kk + 1) listed f w :=
  XH_take ho hw rfl hd hok (fun w hS => by simp [execOp, hx]) h hSw
theorem o_pick1 {d : Nat} {ty : TypeId} {pos : String} {aft : Array Edge} {g : Option (Nat × Bool)} {c x y : Operand} (v : Value) (ho : ops.toList[i]? = some ⟨some d, .pick c x y, ty, pos, aft, g⟩) (hw : wantedX ops n f g = true) (hd : Nat.blt d n = true) (hc : ev f c = .bool true) (hx : ev f x = v)
    (h : XO P n ops Q (i + 1) (up f d (v)) w) : XO P n ops Q i f w :=
  XO_val ho hw rfl hd (by simp [execOp, go_sem, hx, hc]) h
theorem q_pick1 {d : Nat} {ty : TypeId} {pos : String} {aft : Array Edge} {g : Option (Nat × Bool)} {c x y : Operand} (v : Value) (ho : ops.toList[i]? = some ⟨some d, .pick c x y, ty, pos, aft, g⟩) (hw : wantedX ops n f g = true) (hd : Nat.blt d n = true) (hok : takeOk ops listed i = true) (hc : ev f c = .bool true) (hx : ev f x = v)
    (h : S w → XH P n ops KK S kk (listed.setIfInBounds i true) (up f d (v)) w) (hSw : S w) : XH P n ops KK S (kk + 1) listed f w :=
  XH_take ho hw rfl hd hok (fun w hS => by simp [execOp, go_sem, hx, hc]) h hSw
theorem o_pick0 {d : Nat} {ty : TypeId} {pos : String} {aft : Array Edge} {g : Option (Nat × Bool)} {c x y : Operand} (v : Value) (ho : ops.toList[i]? = some ⟨some d, .pick c x y, ty, pos, aft, g⟩) (hw : wantedX ops n f g = true) (hd : Nat.blt d n = true) (hc : ev f c = .bool false) (hx : ev f y = v)
    (h : XO P n ops Q (i + 1) (up f d (v)) w) : XO P n ops Q i f w :=
  XO_val ho hw rfl hd (by simp [execOp, go_sem, hx, hc]) h
theorem q_pick0 {d : Nat} {ty : TypeId} {pos : String} {aft : Array Edge} {g : Option (Nat × Bool)} {c x y : Operand} (v : Value) (ho : ops.toList[i]? = some ⟨some d, .pick c x y, ty, pos, aft, g⟩) (hw : wantedX ops n f g = true) (hd : Nat.blt d n = true) (hok : takeOk ops listed i = true) (hc : ev f c = .bool false) (hx : ev f y = v)
    (h : S w → XH P n ops KK S kk (listed.setIfInBounds i true) (up f d (v)) w) (hSw : S w) : XH P n ops KK S (kk + 1) listed f w :=
  XH_take ho hw rfl hd hok (fun w hS => by simp [execOp, go_sem, hx, hc]) h hSw
theorem o_lss {d : Nat} {ty : TypeId} {pos : String} {aft : Array Edge} {g : Option (Nat × Bool)} {x y : Operand} {t t' : TypeId} {k : IntKind} {a b : Int} (ho : ops.toList[i]? = some ⟨some d, .binOp .lss t x y t', ty, pos, aft, g⟩) (hw : wantedX ops n f g = true) (hd : Nat.blt d n = true) (hx : ev f x = .int k a) (hy : ev f y = .int k b)
    (h : XO P n ops Q (i + 1) (up f d (.bool (decide (a < b)))) w) : XO P n ops Q i f w :=
  XO_val ho hw rfl hd (by simp [execOp, hx, hy, go_sem]) h
theorem q_lss {d : Nat} {ty : TypeId} {pos : String} {aft : Array Edge} {g : Option (Nat × Bool)} {x y : Operand} {t t' : TypeId} {k : IntKind} {a b : Int} (ho : ops.toList[i]? = some ⟨some d, .binOp .lss t x y t', ty, pos, aft, g⟩) (hw : wantedX ops n f g = true) (hd : Nat.blt d n = true) (hok : takeOk ops listed i = true) (hx : ev f x = .int k a) (hy : ev f y = .int k b)
    (h : S w → XH P n ops KK S kk (listed.setIfInBounds i true) (up f d (.bool (decide (a < b)))) w) (hSw : S w) : XH P n ops KK S (kk + 1) listed f w :=
  XH_take ho hw rfl hd hok (fun w hS => by simp [execOp, hx, hy, go_sem]) h hSw
theorem o_lss_is {d : Nat} {ty : TypeId} {pos : String} {aft : Array Edge} {g : Option (Nat × Bool)} {x y : Operand} {t t' : TypeId} {k : IntKind} {a b : Int} (r : Bool) (ho : ops.toList[i]? = some ⟨some d, .binOp .lss t x y t', ty, pos, aft, g⟩) (hw : wantedX ops n f g = true) (hd : Nat.blt d n = true) (hx : ev f x = .int k a) (hy : ev f y = .int k b) (hr : decide (a < b) = r)
    (h : XO P n ops Q (i + 1) (up f d (.bool r)) w) : XO P n ops Q i f w :=
  XO_val ho hw rfl hd (by subst hr; simp [execOp, hx, hy, go_sem]) h
theorem q_lss_is {d : Nat} {ty : TypeId} {pos : String} {aft : Array Edge} {g : Option (Nat × Bool)} {x y : Operand} {t t' : TypeId} {k : IntKind} {a b : Int} (r : Bool) (ho : ops.toList[i]? = some ⟨some d, .binOp .lss t x y t', ty, pos, aft, g⟩) (hw : wantedX ops n f g = true) (hd : Nat.blt d n = true) (hok : takeOk ops listed i = true) (hx : ev f x = .int k a) (hy : ev f y = .int k b) (hr : decide (a < b) = r)
    (h : S w → XH P n ops KK S kk (listed.setIfInBounds i true) (up f d (.bool r)) w) (hSw : S w) : XH P n ops KK S (kk + 1) listed f w :=
  XH_take ho hw rfl hd hok (fun w hS => by subst hr; simp [execOp, hx, hy, go_sem]) h hSw
theorem o_leq {d : Nat} {ty : TypeId} {pos : String} {aft : Array Edge} {g : Option (Nat × Bool)} {x y : Operand} {t t' : TypeId} {k : IntKind} {a b : Int} (ho : ops.toList[i]? = some ⟨some d, .binOp .leq t x y t', ty, pos, aft, g⟩) (hw : wantedX ops n f g = true) (hd : Nat.blt d n = true) (hx : ev f x = .int k a) (hy : ev f y = .int k b)
    (h : XO P n ops Q (i + 1) (up f d (.bool (decide (a ≤ b)))) w) : XO P n ops Q i f w :=
  XO_val ho hw rfl hd (by simp [execOp, hx, hy, go_sem]) h
theorem q_leq {d : Nat} {ty : TypeId} {pos : String} {aft : Array Edge} {g : Option (Nat × Bool)} {x y : Operand} {t t' : TypeId} {k : IntKind} {a b : Int} (ho : ops.toList[i]? = some ⟨some d, .binOp .leq t x y t', ty, pos, aft, g⟩) (hw : wantedX ops n f g = true) (hd : Nat.blt d n = true) (hok : takeOk ops listed i = true) (hx : ev f x = .int k a) (hy : ev f y = .int k b)
    (h : S w → XH P n ops KK S kk (listed.setIfInBounds i true) (up f d (.bool (decide (a ≤ b)))) w) (hSw : S w) : XH P n ops KK S (kk + 1) listed f w :=
  XH_take ho hw rfl hd hok (fun w hS => by simp [execOp, hx, hy, go_sem]) h hSw
theorem o_leq_is {d : Nat} {ty : TypeId} {pos : String} {aft : Array Edge} {g : Option (Nat × Bool)} {x y : Operand} {t t' : TypeId} {k : IntKind} {a b : Int} (r : Bool) (ho : ops.toList[i]? = some ⟨some d, .binOp .leq t x y t', ty, pos, aft, g⟩) (hw : wantedX ops n f g = true) (hd : Nat.blt d n = true) (hx : ev f x = .int k a) (hy : ev f y = .int k b) (hr : decide (a ≤ b) = r)
    (h : XO P n ops Q (i + 1) (up f d (.bool r)) w) : XO P n ops Q i f w :=
  XO_val ho hw rfl hd (by subst hr; simp [execOp, hx, hy, go_sem]) h
theorem q_leq_is {d : Nat} {ty : TypeId} {pos : String} {aft : Array Edge} {g : Option (Nat × Bool)} {x y : Operand} {t t' : TypeId} {k : IntKind} {a b : Int} (r : Bool) (ho : ops.toList[i]? = some ⟨some d, .binOp .leq t x y t', ty, pos, aft, g⟩) (hw : wantedX ops n f g = true) (hd : Nat.blt d n = true) (hok : takeOk ops listed i = true) (hx : ev f x = .int k a) (hy : ev f y = .int k b) (hr : decide (a ≤ b) = r)
    (h : S w → XH P n ops KK S kk (listed.setIfInBounds i true) (up f d (.bool r)) w) (hSw : S w) : XH P n ops KK S (kk + 1) listed f w :=
  XH_take ho hw rfl hd hok (fun w hS => by subst hr; simp [execOp, hx, hy, go_sem]) h hSw
theorem o_gtr {d : Nat} {ty : TypeId} {pos : String} {aft : Array Edge} {g : Option (Nat × Bool)} {x y : Operand} {t t' : TypeId} {k : IntKind} {a b : Int} (ho : ops.toList[i]? = some ⟨some d, .binOp .gtr t x y t', ty, pos, aft, g⟩) (hw : wantedX ops n f g = true) (hd : Nat.blt d n = true) (hx : ev f x = .int k a) (hy : ev f y = .int k b)
    (h : XO P n ops Q (i + 1) (up f d (.bool (decide (a > b)))) w) : XO P n ops Q i f w :=
  XO_val ho hw rfl hd (by simp [execOp, hx, hy, go_sem]) h
theorem q_gtr {d : Nat} {ty : TypeId} {pos : String} {aft : Array Edge} {g : Option (Nat × Bool)} {x y : Operand} {t t' : TypeId} {k : IntKind} {a b : Int} (ho : ops.toList[i]? = some ⟨some d, .binOp .gtr t x y t', ty, pos, aft, g⟩) (hw : wantedX ops n f g = true) (hd : Nat.blt d n = true) (hok : takeOk ops listed i = true) (hx : ev f x = .int k a) (hy : ev f y = .int k b)
    (h : S w → XH P n ops KK S kk (listed.setIfInBounds i true) (up f d (.bool (decide (a > b)))) w) (hSw : S w) : XH P n ops KK S (kk + 1) listed f w :=
  XH_take ho hw rfl hd hok (fun w hS => by simp [execOp, hx, hy, go_sem]) h hSw
theorem o_gtr_is {d : Nat} {ty : TypeId} {pos : String} {aft : Array Edge} {g : Option (Nat × Bool)} {x y : Operand} {t t' : TypeId} {k : IntKind} {a b : Int} (r : Bool) (ho : ops.toList[i]? = some ⟨some d, .binOp .gtr t x y t', ty, pos, aft, g⟩) (hw : wantedX ops n f g = true) (hd : Nat.blt d n = true) (hx : ev f x = .int k a) (hy : ev f y = .int k b) (hr : decide (a > b) = r)
    (h : XO P n ops Q (i + 1) (up f d (.bool r)) w) : XO P n ops Q i f w :=
  XO_val ho hw rfl hd (by subst hr; simp [execOp, hx, hy, go_sem]) h
theorem q_gtr_is {d : Nat} {ty : TypeId} {pos : String} {aft : Array Edge} {g : Option (Nat × Bool)} {x y : Operand} {t t' : TypeId} {k : IntKind} {a b : Int} (r : Bool) (ho : ops.toList[i]? = some ⟨some d, .binOp .gtr t x y t', ty, pos, aft, g⟩) (hw : wantedX ops n f g = true) (hd : Nat.blt d n = true) (hok : takeOk ops listed i = true) (hx : ev f x = .int k a) (hy : ev f y = .int k b) (hr : decide (a > b) = r)
    (h : S w → XH P n ops KK S kk (listed.setIfInBounds i true) (up f d (.bool r)) w) (hSw : S w) : XH P n ops KK S (kk + 1) listed f w :=
  XH_take ho hw rfl hd hok (fun w hS => by subst hr; simp [execOp, hx, hy, go_sem]) h hSw
theorem o_geq {d : Nat} {ty : TypeId} {pos : String} {aft : Array Edge} {g : Option (Nat × Bool)} {x y : Operand} {t t' : TypeId} {k : IntKind} {a b : Int} (ho : ops.toList[i]? = some ⟨some d, .binOp .geq t x y t', ty, pos, aft, g⟩) (hw : wantedX ops n f g = true) (hd : Nat.blt d n = true) (hx : ev f x = .int k a) (hy : ev f y = .int k b)
    (h : XO P n ops Q (i + 1) (up f d (.bool (decide (a ≥ b)))) w) : XO P n ops Q i f w :=
  XO_val ho hw rfl hd (by simp [execOp, hx, hy, go_sem]) h
theorem q_geq {d : Nat} {ty : TypeId} {pos : String} {aft : Array Edge} {g : Option (Nat × Bool)} {x y : Operand} {t t' : TypeId} {k : IntKind} {a b : Int} (ho : ops.toList[i]? = some ⟨some d, .binOp .geq t x y t', ty, pos, aft, g⟩) (hw : wantedX ops n f g = true) (hd : Nat.blt d n = true) (hok : takeOk ops listed i = true) (hx : ev f x = .int k a) (hy : ev f y = .int k b)
    (h : S w → XH P n ops KK S kk (listed.setIfInBounds i true) (up f d (.bool (decide (a ≥ b)))) w) (hSw : S w) : XH P n ops KK S (kk + 1) listed f w :=
  XH_take ho hw rfl hd hok (fun w hS => by simp [execOp, hx, hy, go_sem]) h hSw
theorem o_geq_is {d : Nat} {ty : TypeId} {pos : String} {aft : Array Edge} {g : Option (Nat × Bool)} {x y : Operand} {t t' : TypeId} {k : IntKind} {a b : Int} (r : Bool) (ho : ops.toList[i]? = some ⟨some d, .binOp .geq t x y t', ty, pos, aft, g⟩) (hw : wantedX ops n f g = true) (hd : Nat.blt d n = true) (hx : ev f x = .int k a) (hy : ev f y = .int k b) (hr : decide (a ≥ b) = r)
    (h : XO P n ops Q (i + 1) (up f d (.bool r)) w) : XO P n ops Q i f w :=
  XO_val ho hw rfl hd (by subst hr; simp [execOp, hx, hy, go_sem]) h
theorem q_geq_is {d : Nat} {ty : TypeId} {pos : String} {aft : Array Edge} {g : Option (Nat × Bool)} {x y : Operand} {t t' : TypeId} {k : IntKind} {a b : Int} (r : Bool) (ho : ops.toList[i]? = some ⟨some d, .binOp .geq t x y t', ty, pos, aft, g⟩) (hw : wantedX ops n f g = true) (hd : Nat.blt d n = true) (hok : takeOk ops listed i = true) (hx : ev f x = .int k a) (hy : ev f y = .int k b) (hr : decide (a ≥ b) = r)
    (h : S w → XH P n ops KK S kk (listed.setIfInBounds i true) (up f d (.bool r)) w) (hSw : S w) : XH P n ops KK S (kk + 1) listed f w :=
  XH_take ho hw rfl hd hok (fun w hS => by subst hr; simp [execOp, hx, hy, go_sem]) h hSw
theorem o_eql {d : Nat} {ty : TypeId} {pos : String} {aft : Array Edge} {g : Option (Nat × Bool)} {x y : Operand} {t t' : TypeId} {k : IntKind} {a b : Int} (ho : ops.toList[i]? = some ⟨some d, .binOp .eql t x y t', ty, pos, aft, g⟩) (hw : wantedX ops n f g = true) (hd : Nat.blt d n = true) (hx : ev f x = .int k a) (hy : ev f y = .int k b)
    (h : XO P n ops Q (i + 1) (up f d (.bool (decide (a = b)))) w) : XO P n ops Q i f w :=
  XO_val ho hw rfl hd (by simp [execOp, hx, hy, go_sem]; by_cases e : a = b <;> simp [e]) h
theorem q_eql {d : Nat} {ty : TypeId} {pos : String} {aft : Array Edge} {g : Option (Nat × Bool)} {x y : Operand} {t t' : TypeId} {k : IntKind} {a b : Int} (ho : ops.toList[i]? = some ⟨some d, .binOp .eql t x y t', ty, pos, aft, g⟩) (hw : wantedX ops n f g = true) (hd : Nat.blt d n = true) (hok : takeOk ops listed i = true) (hx : ev f x = .int k a) (hy : ev f y = .int k b)
    (h : S w → XH P n ops KK S kk (listed.setIfInBounds i true) (up f d (.bool (decide (a = b)))) w) (hSw : S w) : XH P n ops KK S (kk + 1) listed f w :=
  XH_take ho hw rfl hd hok (fun w hS => by simp [execOp, hx, hy, go_sem]; by_cases e : a = b <;> simp [e]) h hSw
theorem o_eql_is {d : Nat} {ty : TypeId} {pos : String} {aft : Array Edge} {g : Option (Nat × Bool)} {x y : Operand} {t t' : TypeId} {k : IntKind} {a b : Int} (r : Bool) (ho : ops.toList[i]? = some ⟨some d, .binOp .eql t x y t', ty, pos, aft, g⟩) (hw : wantedX ops n f g = true) (hd : Nat.blt d n = true) (hx : ev f x = .int k a) (hy : ev f y = .int k b) (hr : decide (a = b) = r)
    (h : XO P n ops Q (i + 1) (up f d (.bool r)) w) : XO P n ops Q i f w :=
  XO_val ho hw rfl hd (by subst hr; simp [execOp, hx, hy, go_sem]; by_cases e : a = b <;> simp [e]) h
theorem q_eql_is {d : Nat} {ty : TypeId} {pos : String} {aft : Array Edge} {g : Option (Nat × Bool)} {x y : Operand} {t t' : TypeId} {k : IntKind} {a b : Int} (r : Bool) (ho : ops.toList[i]? = some ⟨some d, .binOp .eql t x y t', ty, pos, aft, g⟩) (hw : wantedX ops n f g = true) (hd : Nat.blt d n = true) (hok : takeOk ops listed i = true) (hx : ev f x = .int k a) (hy : ev f y = .int k b) (hr : decide (a = b) = r)
    (h : S w → XH P n ops KK S kk (listed.setIfInBounds i true) (up f d (.bool r)) w) (hSw : S w) : XH P n ops KK S (kk + 1) listed f w :=
  XH_take ho hw rfl hd hok (fun w hS => by subst hr; simp [execOp, hx, hy, go_sem]; by_cases e : a = b <;> simp [e]) h hSw
theorem o_neq {d : Nat} {ty : TypeId} {pos : String} {aft : Array Edge} {g : Option (Nat × Bool)} {x y : Operand} {t t' : TypeId} {k : IntKind} {a b : Int} (ho : ops.toList[i]? = some ⟨some d, .binOp .neq t x y t', ty, pos, aft, g⟩) (hw : wantedX ops n f g = true) (hd : Nat.blt d n = true) (hx : ev f x = .int k a) (hy : ev f y = .int k b)
    (h : XO P n ops Q (i + 1) (up f d (.bool (decide (a ≠ b)))) w) : XO P n ops Q i f w :=
  XO_val ho hw rfl hd (by simp [execOp, hx, hy, go_sem]; by_cases e : a = b <;> simp [e]) h
theorem q_neq {d : Nat} {ty : TypeId} {pos : String} {aft : Array Edge} {g : Option (Nat × Bool)} {x y : Operand} {t t' : TypeId} {k : IntKind} {a b : Int} (ho : ops.toList[i]? = some ⟨some d, .binOp .neq t x y t', ty, pos, aft, g⟩) (hw : wantedX ops n f g = true) (hd : Nat.blt d n = true) (hok : takeOk ops listed i = true) (hx : ev f x = .int k a) (hy : ev f y = .int k b)
    (h : S w → XH P n ops KK S kk (listed.setIfInBounds i true) (up f d (.bool (decide (a ≠ b)))) w) (hSw : S w) : XH P n ops KK S (kk + 1) listed f w :=
  XH_take ho hw rfl hd hok (fun w hS => by simp [execOp, hx, hy, go_sem]; by_cases e : a = b <;> simp [e]) h hSw
theorem o_neq_is {d : Nat} {ty : TypeId} {pos : String} {aft : Array Edge} {g : Option (Nat × Bool)} {x y : Operand} {t t' : TypeId} {k : IntKind} {a b : Int} (r : Bool) (ho : ops.toList[i]? = some ⟨some d, .binOp .neq t x y t', ty, pos, aft, g⟩) (hw : wantedX ops n f g = true) (hd : Nat.blt d n = true) (hx : ev f x = .int k a) (hy : ev f y = .int k b) (hr : decide (a ≠ b) = r)
    (h : XO P n ops Q (i + 1) (up f d (.bool r)) w) : XO P n ops Q i f w :=
  XO_val ho hw rfl hd (by subst hr; simp [execOp, hx, hy, go_sem]; by_cases e : a = b <;> simp [e]) h
theorem q_neq_is {d : Nat} {ty : TypeId} {pos : String} {aft : Array Edge} {g : Option (Nat × Bool)} {x y : Operand} {t t' : TypeId} {k : IntKind} {a b : Int} (r : Bool) (ho : ops.toList[i]? = some ⟨some d, .binOp .neq t x y t', ty, pos, aft, g⟩) (hw : wantedX ops n f g = true) (hd : Nat.blt d n = true) (hok : takeOk ops listed i = true) (hx : ev f x = .int k a) (hy : ev f y = .int k b) (hr : decide (a ≠ b) = r)
    (h : S w → XH P n ops KK S kk (listed.setIfInBounds i true) (up f d (.bool r)) w) (hSw : S w) : XH P n ops KK S (kk + 1) listed f w :=
  XH_take ho hw rfl hd hok (fun w hS => by subst hr; simp [execOp, hx, hy, go_sem]; by_cases e : a = b <;> simp [e]) h hSw
theorem o_add {d : Nat} {ty : TypeId} {pos : String} {aft : Array Edge} {g : Option (Nat × Bool)} {x y : Operand} {t t' : TypeId} {k : IntKind} {a b : Int} (c : Int) (ho : ops.toList[i]? = some ⟨some d, .binOp .add t x y t', ty, pos, aft, g⟩) (hw : wantedX ops n f g = true) (hd : Nat.blt d n = true) (hx : ev f x = .int k a) (hy : ev f y = .int k b) (hc : k.wrap (a + b) = c)
    (h : XO P n ops Q (i + 1) (up f d (.int k c)) w) : XO P n ops Q i f w :=
  XO_val ho hw rfl hd (by subst hc; simp [execOp, hx, hy, go_sem]) h
theorem q_add {d : Nat} {ty : TypeId} {pos : String} {aft : Array Edge} {g : Option (Nat × Bool)} {x y : Operand} {t t' : TypeId} {k : IntKind} {a b : Int} (c : Int) (ho : ops.toList[i]? = some ⟨some d, .binOp .add t x y t', ty, pos, aft, g⟩) (hw : wantedX ops n f g = true) (hd : Nat.blt d n = true) (hok : takeOk ops listed i = true) (hx : ev f x = .int k a) (hy : ev f y = .int k b) (hc : k.wrap (a + b) = c)
    (h : S w → XH P n ops KK S kk (listed.setIfInBounds i true) (up f d (.int k c)) w) (hSw : S w) : XH P n ops KK S (kk + 1) listed f w :=
  XH_take ho hw rfl hd hok (fun w hS => by subst hc; simp [execOp, hx, hy, go_sem]) h hSw
theorem o_sub {d : Nat} {ty : TypeId} {pos : String} {aft : Array Edge} {g : Option (Nat × Bool)} {x y : Operand} {t t' : TypeId} {k : IntKind} {a b : Int} (c : Int) (ho : ops.toList[i]? = some ⟨some d, .binOp .sub t x y t', ty, pos, aft, g⟩) (hw : wantedX ops n f g = true) (hd : Nat.blt d n = true) (hx : ev f x = .int k a) (hy : ev f y = .int k b) (hc : k.wrap (a - b) = c)
    (h : XO P n ops Q (i + 1) (up f d (.int k c)) w) : XO P n ops Q i f w :=
  XO_val ho hw rfl hd (by subst hc; simp [execOp, hx, hy, go_sem]) h
theorem q_sub {d : Nat} {ty : TypeId} {pos : String} {aft : Array Edge} {g : Option (Nat × Bool)} {x y : Operand} {t t' : TypeId} {k : IntKind} {a b : Int} (c : Int) (ho : ops.toList[i]? = some ⟨some d, .binOp .sub t x y t', ty, pos, aft, g⟩) (hw : wantedX ops n f g = true) (hd : Nat.blt d n = true) (hok : takeOk ops listed i = true) (hx : ev f x = .int k a) (hy : ev f y = .int k b) (hc : k.wrap (a - b) = c)
    (h : S w → XH P n ops KK S kk (listed.setIfInBounds i true) (up f d (.int k c)) w) (hSw : S w) : XH P n ops KK S (kk + 1) listed f w :=
  XH_take ho hw rfl hd hok (fun w hS => by subst hc; simp [execOp, hx, hy, go_sem]) h hSw
theorem o_mul {d : Nat} {ty : TypeId} {pos : String} {aft : Array Edge} {g : Option (Nat × Bool)} {x y : Operand} {t t' : TypeId} {k : IntKind} {a b : Int} (c : Int) (ho : ops.toList[i]? = some ⟨some d, .binOp .mul t x y t', ty, pos, aft, g⟩) (hw : wantedX ops n f g = true) (hd : Nat.blt d n = true) (hx : ev f x = .int k a) (hy : ev f y = .int k b) (hc : k.wrap (a * b) = c)
    (h : XO P n ops Q (i + 1) (up f d (.int k c)) w) : XO P n ops Q i f w :=
  XO_val ho hw rfl hd (by subst hc; simp [execOp, hx, hy, go_sem]) h
theorem q_mul {d : Nat} {ty : TypeId} {pos : String} {aft : Array Edge} {g : Option (Nat × Bool)} {x y : Operand} {t t' : TypeId} {k : IntKind} {a b : Int} (c : Int) (ho : ops.toList[i]? = some ⟨some d, .binOp .mul t x y t', ty, pos, aft, g⟩) (hw : wantedX ops n f g = true) (hd : Nat.blt d n = true) (hok : takeOk ops listed i = true) (hx : ev f x = .int k a) (hy : ev f y = .int k b) (hc : k.wrap (a * b) = c)
    (h : S w → XH P n ops KK S kk (listed.setIfInBounds i true) (up f d (.int k c)) w) (hSw : S w) : XH P n ops KK S (kk + 1) listed f w :=
  XH_take ho hw rfl hd hok (fun w hS => by subst hc; simp [execOp, hx, hy, go_sem]) h hSw
theorem o_quo {d : Nat} {ty : TypeId} {pos : String} {aft : Array Edge} {g : Option (Nat × Bool)} {x y : Operand} {t t' : TypeId} {k : IntKind} {a b : Int} (c : Int) (ho : ops.toList[i]? = some ⟨some d, .binOp .quo t x y t', ty, pos, aft, g⟩) (hw : wantedX ops n f g = true) (hd : Nat.blt d n = true) (hx : ev f x = .int k a) (hy : ev f y = .int k b) (h0 : b ≠ 0) (hc : k.wrap (a.tdiv b) = c)
    (h : XO P n ops Q (i + 1) (up f d (.int k c)) w) : XO P n ops Q i f w :=
  XO_val ho hw rfl hd (by subst hc; simp [execOp, hx, hy, go_sem, h0]) h
theorem q_quo {d : Nat} {ty : TypeId} {pos : String} {aft : Array Edge} {g : Option (Nat × Bool)} {x y : Operand} {t t' : TypeId} {k : IntKind} {a b : Int} (c : Int) (ho : ops.toList[i]? = some ⟨some d, .binOp .quo t x y t', ty, pos, aft, g⟩) (hw : wantedX ops n f g = true) (hd : Nat.blt d n = true) (hok : takeOk ops listed i = true) (hx : ev f x = .int k a) (hy : ev f y = .int k b) (h0 : b ≠ 0) (hc : k.wrap (a.tdiv b) = c)
    (h : S w → XH P n ops KK S kk (listed.setIfInBounds i true) (up f d (.int k c)) w) (hSw : S w) : XH P n ops KK S (kk + 1) listed f w :=
  XH_take ho hw rfl hd hok (fun w hS => by subst hc; simp [execOp, hx, hy, go_sem, h0]) h hSw
theorem o_rem {d : Nat} {ty : TypeId} {pos : String} {aft : Array Edge} {g : Option (Nat × Bool)} {x y : Operand} {t t' : TypeId} {k : IntKind} {a b : Int} (c : Int) (ho : ops.toList[i]? = some ⟨some d, .binOp .rem t x y t', ty, pos, aft, g⟩) (hw : wantedX ops n f g = true) (hd : Nat.blt d n = true) (hx : ev f x = .int k a) (hy : ev f y = .int k b) (h0 : b ≠ 0) (hc : a.tmod b = c)
    (h : XO P n ops Q (i + 1) (up f d (.int k c)) w) : XO P n ops Q i f w :=
  XO_val ho hw rfl hd (by subst hc; simp [execOp, hx, hy, go_sem, h0]) h
theorem q_rem {d : Nat} {ty : TypeId} {pos : String} {aft : Array Edge} {g : Option (Nat × Bool)} {x y : Operand} {t t' : TypeId} {k : IntKind} {a b : Int} (c : Int) (ho : ops.toList[i]? = some ⟨some d, .binOp .rem t x y t', ty, pos, aft, g⟩) (hw : wantedX ops n f g = true) (hd : Nat.blt d n = true) (hok : takeOk ops listed i = true) (hx : ev f x = .int k a) (hy : ev f y = .int k b) (h0 : b ≠ 0) (hc : a.tmod b = c)
    (h : S w → XH P n ops KK S kk (listed.setIfInBounds i true) (up f d (.int k c)) w) (hSw : S w) : XH P n ops KK S (kk + 1) listed f w :=
  XH_take ho hw rfl hd hok (fun w hS => by subst hc; simp [execOp, hx, hy, go_sem, h0]) h hSw
theorem o_and {d : Nat} {ty : TypeId} {pos : String} {aft : Array Edge} {g : Option (Nat × Bool)} {x y : Operand} {t t' : TypeId} {k : IntKind} {a b : Int} (c : Int) (ho : ops.toList[i]? = some ⟨some d, .binOp .and t x y t', ty, pos, aft, g⟩) (hw : wantedX ops n f g = true) (hd : Nat.blt d n = true) (hx : ev f x = .int k a) (hy : ev f y = .int k b) (hc : bits .and k a b = c)
    (h : XO P n ops Q (i + 1) (up f d (.int k c)) w) : XO P n ops Q i f w :=
  XO_val ho hw rfl hd (by subst hc; simp [execOp, hx, hy, go_sem]) h
theorem q_and {d : Nat} {ty : TypeId} {pos : String} {aft : Array Edge} {g : Option (Nat × Bool)} {x y : Operand} {t t' : TypeId} {k : IntKind} {a b : Int} (c : Int) (ho : ops.toList[i]? = some ⟨some d, .binOp .and t x y t', ty, pos, aft, g⟩) (hw : wantedX ops n f g = true) (hd : Nat.blt d n = true) (hok : takeOk ops listed i = true) (hx : ev f x = .int k a) (hy : ev f y = .int k b) (hc : bits .and k a b = c)
    (h : S w → XH P n ops KK S kk (listed.setIfInBounds i true) (up f d (.int k c)) w) (hSw : S w) : XH P n ops KK S (kk + 1) listed f w :=
  XH_take ho hw rfl hd hok (fun w hS => by subst hc; simp [execOp, hx, hy, go_sem]) h hSw
theorem o_or {d : Nat} {ty : TypeId} {pos : String} {aft : Array Edge} {g : Option (Nat × Bool)} {x y : Operand} {t t' : TypeId} {k : IntKind} {a b : Int} (c : Int) (ho : ops.toList[i]? = some ⟨some d, .binOp .or t x y t', ty, pos, aft, g⟩) (hw : wantedX ops n f g = true) (hd : Nat.blt d n = true) (hx : ev f x = .int k a) (hy : ev f y = .int k b) (hc : bits .or k a b = c)
    (h : XO P n ops Q (i + 1) (up f d (.int k c)) w) : XO P n ops Q i f w :=
  XO_val ho hw rfl hd (by subst hc; simp [execOp, hx, hy, go_sem]) h
theorem q_or {d : Nat} {ty : TypeId} {pos : String} {aft : Array Edge} {g : Option (Nat × Bool)} {x y : Operand} {t t' : TypeId} {k : IntKind} {a b : Int} (c : Int) (ho : ops.toList[i]? = some ⟨some d, .binOp .or t x y t', ty, pos, aft, g⟩) (hw : wantedX ops n f g = true) (hd : Nat.blt d n = true) (hok : takeOk ops listed i = true) (hx : ev f x = .int k a) (hy : ev f y = .int k b) (hc : bits .or k a b = c)
    (h : S w → XH P n ops KK S kk (listed.setIfInBounds i true) (up f d (.int k c)) w) (hSw : S w) : XH P n ops KK S (kk + 1) listed f w :=
  XH_take ho hw rfl hd hok (fun w hS => by subst hc; simp [execOp, hx, hy, go_sem]) h hSw
theorem o_xor {d : Nat} {ty : TypeId} {pos : String} {aft : Array Edge} {g : Option (Nat × Bool)} {x y : Operand} {t t' : TypeId} {k : IntKind} {a b : Int} (c : Int) (ho : ops.toList[i]? = some ⟨some d, .binOp .xor t x y t', ty, pos, aft, g⟩) (hw : wantedX ops n f g = true) (hd : Nat.blt d n = true) (hx : ev f x = .int k a) (hy : ev f y = .int k b) (hc : bits .xor k a b = c)
    (h : XO P n ops Q (i + 1) (up f d (.int k c)) w) : XO P n ops Q i f w :=
  XO_val ho hw rfl hd (by subst hc; simp [execOp, hx, hy, go_sem]) h
theorem q_xor {d : Nat} {ty : TypeId} {pos : String} {aft : Array Edge} {g : Option (Nat × Bool)} {x y : Operand} {t t' : TypeId} {k : IntKind} {a b : Int} (c : Int) (ho : ops.toList[i]? = some ⟨some d, .binOp .xor t x y t', ty, pos, aft, g⟩) (hw : wantedX ops n f g = true) (hd : Nat.blt d n = true) (hok : takeOk ops listed i = true) (hx : ev f x = .int k a) (hy : ev f y = .int k b) (hc : bits .xor k a b = c)
    (h : S w → XH P n ops KK S kk (listed.setIfInBounds i true) (up f d (.int k c)) w) (hSw : S w) : XH P n ops KK S (kk + 1) listed f w :=
  XH_take ho hw rfl hd hok (fun w hS => by subst hc; simp [execOp, hx, hy, go_sem]) h hSw
theorem o_andNot {d : Nat} {ty : TypeId} {pos : String} {aft : Array Edge} {g : Option (Nat × Bool)} {x y : Operand} {t t' : TypeId} {k : IntKind} {a b : Int} (c : Int) (ho : ops.toList[i]? = some ⟨some d, .binOp .andNot t x y t', ty, pos, aft, g⟩) (hw : wantedX ops n f g = true) (hd : Nat.blt d n = true) (hx : ev f x = .int k a) (hy : ev f y = .int k b) (hc : bits .andNot k a b = c)
    (h : XO P n ops Q (i + 1) (up f d (.int k c)) w) : XO P n ops Q i f w :=
  XO_val ho hw rfl hd (by subst hc; simp [execOp, hx, hy, go_sem]) h
theorem q_andNot {d : Nat} {ty : TypeId} {pos : String} {aft : Array Edge} {g : Option (Nat × Bool)} {x y : Operand} {t t' : TypeId} {k : IntKind} {a b : Int} (c : Int) (ho : ops.toList[i]? = some ⟨some d, .binOp .andNot t x y t', ty, pos, aft, g⟩) (hw : wantedX ops n f g = true) (hd : Nat.blt d n = true) (hok : takeOk ops listed i = true) (hx : ev f x = .int k a) (hy : ev f y = .int k b) (hc : bits .andNot k a b = c)
    (h : S w → XH P n ops KK S kk (listed.setIfInBounds i true) (up f d (.int k c)) w) (hSw : S w) : XH P n ops KK S (kk + 1) listed f w :=
  XH_take ho hw rfl hd hok (fun w hS => by subst hc; simp [execOp, hx, hy, go_sem]) h hSw
theorem o_shr {d : Nat} {ty : TypeId} {pos : String} {aft : Array Edge} {g : Option (Nat × Bool)} {x y : Operand} {t t' : TypeId} {k k' : IntKind} {a b : Int} (c : Int) (ho : ops.toList[i]? = some ⟨some d, .binOp .shr t x y t', ty, pos, aft, g⟩) (hw : wantedX ops n f g = true) (hd : Nat.blt d n = true) (hx : ev f x = .int k a) (hy : ev f y = .int k' b) (h0 : 0 ≤ b) (h1 : b ≤ k.bits) (hc : a / 2 ^ b.toNat = c)
    (h : XO P n ops Q (i + 1) (up f d (.int k c)) w) : XO P n ops Q i f w :=
  XO_val ho hw rfl hd (by subst hc; simp [execOp, hx, hy, binOp_shr, eqGuard_shr, shift_shr k k' a b h0 h1]) h
theorem q_shr {d : Nat} {ty : TypeId} {pos : String} {aft : Array Edge} {g : Option (Nat × Bool)} {x y : Operand} {t t' : TypeId} {k k' : IntKind} {a b : Int} (c : Int) (ho : ops.toList[i]? = some ⟨some d, .binOp .shr t x y t', ty, pos, aft, g⟩) (hw : wantedX ops n f g = true) (hd : Nat.blt d n = true) (hok : takeOk ops listed i = true) (hx : ev f x = .int k a) (hy : ev f y = .int k' b) (h0 : 0 ≤ b) (h1 : b ≤ k.bits) (hc : a / 2 ^ b.toNat = c)
    (h : S w → XH P n ops KK S kk (listed.setIfInBounds i true) (up f d (.int k c)) w) (hSw : S w) : XH P n ops KK S (kk + 1) listed f w :=
  XH_take ho hw rfl hd hok (fun w hS => by subst hc; simp [execOp, hx, hy, binOp_shr, eqGuard_shr, shift_shr k k' a b h0 h1]) h hSw
theorem o_shl {d : Nat} {ty : TypeId} {pos : String} {aft : Array Edge} {g : Option (Nat × Bool)} {x y : Operand} {t t' : TypeId} {k k' : IntKind} {a b : Int} (c : Int) (ho : ops.toList[i]? = some ⟨some d, .binOp .shl t x y t', ty, pos, aft, g⟩) (hw : wantedX ops n f g = true) (hd : Nat.blt d n = true) (hx : ev f x = .int k a) (hy : ev f y = .int k' b) (h0 : 0 ≤ b) (h1 : b ≤ k.bits) (hc : k.wrap (a * 2 ^ b.toNat) = c)
    (h : XO P n ops Q (i + 1) (up f d (.int k c)) w) : XO P n ops Q i f w :=
  XO_val ho hw rfl hd (by subst hc; simp [execOp, hx, hy, binOp_shl, eqGuard_shl, shift_shl k k' a b h0 h1]) h
theorem q_shl {d : Nat} {ty : TypeId} {pos : String} {aft : Array Edge} {g : Option (Nat × Bool)} {x y : Operand} {t t' : TypeId} {k k' : IntKind} {a b : Int} (c : Int) (ho : ops.toList[i]? = some ⟨some d, .binOp .shl t x y t', ty, pos, aft, g⟩) (hw : wantedX ops n f g = true) (hd : Nat.blt d n = true) (hok : takeOk ops listed i = true) (hx : ev f x = .int k a) (hy : ev f y = .int k' b) (h0 : 0 ≤ b) (h1 : b ≤ k.bits) (hc : k.wrap (a * 2 ^ b.toNat) = c)
    (h : S w → XH P n ops KK S kk (listed.setIfInBounds i true) (up f d (.int k c)) w) (hSw : S w) : XH P n ops KK S (kk + 1) listed f w :=
  XH_take ho hw rfl hd hok (fun w hS => by subst hc; simp [execOp, hx, hy, binOp_shl, eqGuard_shl, shift_shl k k' a b h0 h1]) h hSw
theorem o_eqb {d : Nat} {ty : TypeId} {pos : String} {aft : Array Edge} {g : Option (Nat × Bool)} {x y : Operand} {t t' : TypeId} {a b : Bool} (ho : ops.toList[i]? = some ⟨some d, .binOp .eql t x y t', ty, pos, aft, g⟩) (hw : wantedX ops n f g = true) (hd : Nat.blt d n = true) (ht : P.underlying t = some .bool) (hx : ev f x = .bool a) (hy : ev f y = .bool b)
    (h : XO P n ops Q (i + 1) (up f d (.bool (a == b))) w) : XO P n ops Q i f w :=
  XO_val ho hw rfl hd (by simp only [execOp, hx, hy, Sem.run_bind, eqGuard_at_bool, Sem.run_pure, Result.andThen_ok]; exact run_eql_b (P := P) ht _ _ w) h
theorem q_eqb {d : Nat} {ty : TypeId} {pos : String} {aft : Array Edge} {g : Option (Nat × Bool)} {x y : Operand} {t t' : TypeId} {a b : Bool} (ho : ops.toList[i]? = some ⟨some d, .binOp .eql t x y t', ty, pos, aft, g⟩) (hw : wantedX ops n f g = true) (hd : Nat.blt d n = true) (hok : takeOk ops listed i = true) (ht : P.underlying t = some .bool) (hx : ev f x = .bool a) (hy : ev f y = .bool b)
    (h : S w → XH P n ops KK S kk (listed.setIfInBounds i true) (up f d (.bool (a == b))) w) (hSw : S w) : XH P n ops KK S (kk + 1) listed f w :=
  XH_take ho hw rfl hd hok (fun w hS => by simp only [execOp, hx, hy, Sem.run_bind, eqGuard_at_bool, Sem.run_pure, Result.andThen_ok]; exact run_eql_b (P := P) ht _ _ w) h hSw
theorem o_neb {d : Nat} {ty : TypeId} {pos : String} {aft : Array Edge} {g : Option (Nat × Bool)} {x y : Operand} {t t' : TypeId} {a b : Bool} (ho : ops.toList[i]? = some ⟨some d, .binOp .neq t x y t', ty, pos, aft, g⟩) (hw : wantedX ops n f g = true) (hd : Nat.blt d n = true) (ht : P.underlying t = some .bool) (hx : ev f x = .bool a) (hy : ev f y = .bool b)
    (h : XO P n ops Q (i + 1) (up f d (.bool (!(a == b)))) w) : XO P n ops Q i f w :=
  XO_val ho hw rfl hd (by simp only [execOp, hx, hy, Sem.run_bind, eqGuard_at_bool, Sem.run_pure, Result.andThen_ok]; exact run_neq_b (P := P) ht _ _ w) h
theorem q_neb {d : Nat} {ty : TypeId} {pos : String} {aft : Array Edge} {g : Option (Nat × Bool)} {x y : Operand} {t t' : TypeId} {a b : Bool} (ho : ops.toList[i]? = some ⟨some d, .binOp .neq t x y t', ty, pos, aft, g⟩) (hw : wantedX ops n f g = true) (hd : Nat.blt d n = true) (hok : takeOk ops listed i = true) (ht : P.underlying t = some .bool) (hx : ev f x = .bool a) (hy : ev f y = .bool b)
    (h : S w → XH P n ops KK S kk (listed.setIfInBounds i true) (up f d (.bool (!(a == b)))) w) (hSw : S w) : XH P n ops KK S (kk + 1) listed f w :=
  XH_take ho hw rfl hd hok (fun w hS => by simp only [execOp, hx, hy, Sem.run_bind, eqGuard_at_bool, Sem.run_pure, Result.andThen_ok]; exact run_neq_b (P := P) ht _ _ w) h hSw
theorem o_eqp {d : Nat} {ty : TypeId} {pos : String} {aft : Array Edge} {g : Option (Nat × Bool)} {x y : Operand} {t t' e : TypeId} {a : Option Addr} (ho : ops.toList[i]? = some ⟨some d, .binOp .eql t x y t', ty, pos, aft, g⟩) (hw : wantedX ops n f g = true) (hd : Nat.blt d n = true) (ht : P.underlying t = some (.pointer e)) (hx : ev f x = .pointer a) (hy : ev f y = .pointer none)
    (h : XO P n ops Q (i + 1) (up f d (.bool a.isNone)) w) : XO P n ops Q i f w :=
  XO_val ho hw rfl hd (by simp only [execOp, hx, hy, Sem.run_bind, eqGuard_at_pointer, Sem.run_pure, Result.andThen_ok]; exact run_eql_p (P := P) ht _ w) h
theorem q_eqp {d : Nat} {ty : TypeId} {pos : String} {aft : Array Edge} {g : Option (Nat × Bool)} {x y : Operand} {t t' e : TypeId} {a : Option Addr} (ho : ops.toList[i]? = some ⟨some d, .binOp .eql t x y t', ty, pos, aft, g⟩) (hw : wantedX ops n f g = true) (hd : Nat.blt d n = true) (hok : takeOk ops listed i = true) (ht : P.underlying t = some (.pointer e)) (hx : ev f x = .pointer a) (hy : ev f y = .pointer none)
    (h : S w → XH P n ops KK S kk (listed.setIfInBounds i true) (up f d (.bool a.isNone)) w) (hSw : S w) : XH P n ops KK S (kk + 1) listed f w :=
  XH_take ho hw rfl hd hok (fun w hS => by simp only [execOp, hx, hy, Sem.run_bind, eqGuard_at_pointer, Sem.run_pure, Result.andThen_ok]; exact run_eql_p (P := P) ht _ w) h hSw
theorem o_nep {d : Nat} {ty : TypeId} {pos : String} {aft : Array Edge} {g : Option (Nat × Bool)} {x y : Operand} {t t' e : TypeId} {a : Option Addr} (ho : ops.toList[i]? = some ⟨some d, .binOp .neq t x y t', ty, pos, aft, g⟩) (hw : wantedX ops n f g = true) (hd : Nat.blt d n = true) (ht : P.underlying t = some (.pointer e)) (hx : ev f x = .pointer a) (hy : ev f y = .pointer none)
    (h : XO P n ops Q (i + 1) (up f d (.bool (!a.isNone))) w) : XO P n ops Q i f w :=
  XO_val ho hw rfl hd (by simp only [execOp, hx, hy, Sem.run_bind, eqGuard_at_pointer, Sem.run_pure, Result.andThen_ok]; exact run_neq_p (P := P) ht _ w) h
theorem q_nep {d : Nat} {ty : TypeId} {pos : String} {aft : Array Edge} {g : Option (Nat × Bool)} {x y : Operand} {t t' e : TypeId} {a : Option Addr} (ho : ops.toList[i]? = some ⟨some d, .binOp .neq t x y t', ty, pos, aft, g⟩) (hw : wantedX ops n f g = true) (hd : Nat.blt d n = true) (hok : takeOk ops listed i = true) (ht : P.underlying t = some (.pointer e)) (hx : ev f x = .pointer a) (hy : ev f y = .pointer none)
    (h : S w → XH P n ops KK S kk (listed.setIfInBounds i true) (up f d (.bool (!a.isNone))) w) (hSw : S w) : XH P n ops KK S (kk + 1) listed f w :=
  XH_take ho hw rfl hd hok (fun w hS => by simp only [execOp, hx, hy, Sem.run_bind, eqGuard_at_pointer, Sem.run_pure, Result.andThen_ok]; exact run_neq_p (P := P) ht _ w) h hSw
theorem o_eqsl {d : Nat} {ty : TypeId} {pos : String} {aft : Array Edge} {g : Option (Nat × Bool)} {x y : Operand} {t t' e : TypeId} {a : Option Addr} {l c : Nat} (ho : ops.toList[i]? = some ⟨some d, .binOp .eql t x y t', ty, pos, aft, g⟩) (hw : wantedX ops n f g = true) (hd : Nat.blt d n = true) (ht : P.underlying t = some (.slice e)) (hx : ev f x = .slice a l c) (hy : ev f y = .slice none 0 0)
    (h : XO P n ops Q (i + 1) (up f d (.bool a.isNone)) w) : XO P n ops Q i f w :=
  XO_val ho hw rfl hd (by simp only [execOp, hx, hy, Sem.run_bind, eqGuard_at_slice, Sem.run_pure, Result.andThen_ok]; exact run_eql_sl (P := P) ht _ _ _ w) h
theorem q_eqsl {d : Nat} {ty : TypeId} {pos : String} {aft : Array Edge} {g : Option (Nat × Bool)} {x y : Operand} {t t' e : TypeId} {a : Option Addr} {l c : Nat} (ho : ops.toList[i]? = some ⟨some d, .binOp .eql t x y t', ty, pos, aft, g⟩) (hw : wantedX ops n f g = true) (hd : Nat.blt d n = true) (hok : takeOk ops listed i = true) (ht : P.underlying t = some (.slice e)) (hx : ev f x = .slice a l c) (hy : ev f y = .slice none 0 0)
    (h : S w → XH P n ops KK S kk (listed.setIfInBounds i true) (up f d (.bool a.isNone)) w) (hSw : S w) : XH P n ops KK S (kk + 1) listed f w :=
  XH_take ho hw rfl hd hok (fun w hS => by simp only [execOp, hx, hy, Sem.run_bind, eqGuard_at_slice, Sem.run_pure, Result.andThen_ok]; exact run_eql_sl (P := P) ht _ _ _ w) h hSw
theorem o_nesl {d : Nat} {ty : TypeId} {pos : String} {aft : Array Edge} {g : Option (Nat × Bool)} {x y : Operand} {t t' e : TypeId} {a : Option Addr} {l c : Nat} (ho : ops.toList[i]? = some ⟨some d, .binOp .neq t x y t', ty, pos, aft, g⟩) (hw : wantedX ops n f g = true) (hd : Nat.blt d n = true) (ht : P.underlying t = some (.slice e)) (hx : ev f x = .slice a l c) (hy : ev f y = .slice none 0 0)
    (h : XO P n ops Q (i + 1) (up f d (.bool (!a.isNone))) w) : XO P n ops Q i f w :=
  XO_val ho hw rfl hd (by simp only [execOp, hx, hy, Sem.run_bind, eqGuard_at_slice, Sem.run_pure, Result.andThen_ok]; exact run_neq_sl (P := P) ht _ _ _ w) h
theorem q_nesl {d : Nat} {ty : TypeId} {pos : String} {aft : Array Edge} {g : Option (Nat × Bool)} {x y : Operand} {t t' e : TypeId} {a : Option Addr} {l c : Nat} (ho : ops.toList[i]? = some ⟨some d, .binOp .neq t x y t', ty, pos, aft, g⟩) (hw : wantedX ops n f g = true) (hd : Nat.blt d n = true) (hok : takeOk ops listed i = true) (ht : P.underlying t = some (.slice e)) (hx : ev f x = .slice a l c) (hy : ev f y = .slice none 0 0)
    (h : S w → XH P n ops KK S kk (listed.setIfInBounds i true) (up f d (.bool (!a.isNone))) w) (hSw : S w) : XH P n ops KK S (kk + 1) listed f w :=
  XH_take ho hw rfl hd hok (fun w hS => by simp only [execOp, hx, hy, Sem.run_bind, eqGuard_at_slice, Sem.run_pure, Result.andThen_ok]; exact run_neq_sl (P := P) ht _ _ _ w) h hSw
theorem o_not {d : Nat} {ty : TypeId} {pos : String} {aft : Array Edge} {g : Option (Nat × Bool)} {x : Operand} {t : TypeId} {b : Bool} (ho : ops.toList[i]? = some ⟨some d, .unOp .not t x, ty, pos, aft, g⟩) (hw : wantedX ops n f g = true) (hd : Nat.blt d n = true) (hx : ev f x = .bool b)
    (h : XO P n ops Q (i + 1) (up f d (.bool (!b))) w) : XO P n ops Q i f w :=
  XO_val ho hw rfl hd (by simp [execOp, hx, Op.unary]) h
theorem q_not {d : Nat} {ty : TypeId} {pos : String} {aft : Array Edge} {g : Option (Nat × Bool)} {x : Operand} {t : TypeId} {b : Bool} (ho : ops.toList[i]? = some ⟨some d, .unOp .not t x, ty, pos, aft, g⟩) (hw : wantedX ops n f g = true) (hd : Nat.blt d n = true) (hok : takeOk ops listed i = true) (hx : ev f x = .bool b)
    (h : S w → XH P n ops KK S kk (listed.setIfInBounds i true) (up f d (.bool (!b))) w) (hSw : S w) : XH P n ops KK S (kk + 1) listed f w :=
  XH_take ho hw rfl hd hok (fun w hS => by simp [execOp, hx, Op.unary]) h hSw
theorem o_neg {d : Nat} {ty : TypeId} {pos : String} {aft : Array Edge} {g : Option (Nat × Bool)} {x : Operand} {t : TypeId} {k : IntKind} {a : Int} (c : Int) (ho : ops.toList[i]? = some ⟨some d, .unOp .neg t x, ty, pos, aft, g⟩) (hw : wantedX ops n f g = true) (hd : Nat.blt d n = true) (hx : ev f x = .int k a) (hc : k.wrap (0 - a) = c)
    (h : XO P n ops Q (i + 1) (up f d (.int k c)) w) : XO P n ops Q i f w :=
  XO_val ho hw rfl hd (by subst hc; simp [execOp, hx, Op.unary, Op.intArith]) h
theorem q_neg {d : Nat} {ty : TypeId} {pos : String} {aft : Array Edge} {g : Option (Nat × Bool)} {x : Operand} {t : TypeId} {k : IntKind} {a : Int} (c : Int) (ho : ops.toList[i]? = some ⟨some d, .unOp .neg t x, ty, pos, aft, g⟩) (hw : wantedX ops n f g = true) (hd : Nat.blt d n = true) (hok : takeOk ops listed i = true) (hx : ev f x = .int k a) (hc : k.wrap (0 - a) = c)
    (h : S w → XH P n ops KK S kk (listed.setIfInBounds i true) (up f d (.int k c)) w) (hSw : S w) : XH P n ops KK S (kk + 1) listed f w :=
  XH_take ho hw rfl hd hok (fun w hS => by subst hc; simp [execOp, hx, Op.unary, Op.intArith]) h hSw
theorem o_uxor {d : Nat} {ty : TypeId} {pos : String} {aft : Array Edge} {g : Option (Nat × Bool)} {x : Operand} {t : TypeId} {k : IntKind} {a : Int} (c : Int) (ho : ops.toList[i]? = some ⟨some d, .unOp .xor t x, ty, pos, aft, g⟩) (hw : wantedX ops n f g = true) (hd : Nat.blt d n = true) (hx : ev f x = .int k a) (hk : k.signed = false) (hc : bits .xor k k.max a = c)
    (h : XO P n ops Q (i + 1) (up f d (.int k c)) w) : XO P n ops Q i f w :=
  XO_val ho hw rfl hd (by subst hc; simp only [execOp, hx, Op.unary, hk, Bool.false_eq_true, if_false, intBits_xor]; rfl) h
theorem q_uxor {d : Nat} {ty : TypeId} {pos : String} {aft : Array Edge} {g : Option (Nat × Bool)} {x : Operand} {t : TypeId} {k : IntKind} {a : Int} (c : Int) (ho : ops.toList[i]? = some ⟨some d, .unOp .xor t x, ty, pos, aft, g⟩) (hw : wantedX ops n f g = true) (hd : Nat.blt d n = true) (hok : takeOk ops listed i = true) (hx : ev f x = .int k a) (hk : k.signed = false) (hc : bits .xor k k.max a = c)
    (h : S w → XH P n ops KK S kk (listed.setIfInBounds i true) (up f d (.int k c)) w) (hSw : S w) : XH P n ops KK S (kk + 1) listed f w :=
  XH_take ho hw rfl hd hok (fun w hS => by subst hc; simp only [execOp, hx, Op.unary, hk, Bool.false_eq_true, if_false, intBits_xor]; rfl) h hSw
theorem o_cvi {d : Nat} {ty : TypeId} {pos : String} {aft : Array Edge} {g : Option (Nat × Bool)} {x : Operand} {s t : TypeId} {k k' : IntKind} {a : Int} (c : Int) (ho : ops.toList[i]? = some ⟨some d, .convert s t x, ty, pos, aft, g⟩) (hw : wantedX ops n f g = true) (hd : Nat.blt d n = true) (ht : P.underlying t = some (.int k')) (hs : (P.underlying s).isSome = true) (hx : ev f x = .int k a) (hc : k'.wrap a = c)
    (h : XO P n ops Q (i + 1) (up f d (.int k' c)) w) : XO P n ops Q i f w :=
  XO_val ho hw rfl hd (by subst hc; obtain ⟨u, hu⟩ := Option.isSome_iff_exists.1 hs; simp [execOp, hx, convert, run_underlying ht, run_underlying hu, Conv.intToInt]) h
theorem q_cvi {d : Nat} {ty : TypeId} {pos : String} {aft : Array Edge} {g : Option (Nat × Bool)} {x : Operand} {s t : TypeId} {k k' : IntKind} {a : Int} (c : Int) (ho : ops.toList[i]? = some ⟨some d, .convert s t x, ty, pos, aft, g⟩) (hw : wantedX ops n f g = true) (hd : Nat.blt d n = true) (hok : takeOk ops listed i = true) (ht : P.underlying t = some (.int k')) (hs : (P.underlying s).isSome = true) (hx : ev f x = .int k a) (hc : k'.wrap a = c)
    (h : S w → XH P n ops KK S kk (listed.setIfInBounds i true) (up f d (.int k' c)) w) (hSw : S w) : XH P n ops KK S (kk + 1) listed f w :=
  XH_take ho hw rfl hd hok (fun w hS => by subst hc; obtain ⟨u, hu⟩ := Option.isSome_iff_exists.1 hs; simp [execOp, hx, convert, run_underlying ht, run_underlying hu, Conv.intToInt]) h hSw
theorem o_ext {d : Nat} {ty : TypeId} {pos : String} {aft : Array Edge} {g : Option (Nat × Bool)} {x : Operand} {j : Nat} {vs : Array Value} (v : Value) (ho : ops.toList[i]? = some ⟨some d, .extract x j, ty, pos, aft, g⟩) (hw : wantedX ops n f g = true) (hd : Nat.blt d n = true) (hx : ev f x = .tuple vs) (hv : vs.toList[j]? = some v)
    (h : XO P n ops Q (i + 1) (up f d (v)) w) : XO P n ops Q i f w :=
  XO_val ho hw rfl hd (by
      have hv' : vs[j]? = some v := by simpa using hv
      simp [execOp, hx, Instr.extract, hv']) h
theorem q_ext {d : Nat} {ty : TypeId} {pos : String} {aft : Array Edge} {g : Option (Nat × Bool)} {x : Operand} {j : Nat} {vs : Array Value} (v : Value) (ho : ops.toList[i]? = some ⟨some d, .extract x j, ty, pos, aft, g⟩) (hw : wantedX ops n f g = true) (hd : Nat.blt d n = true) (hok : takeOk ops listed i = true) (hx : ev f x = .tuple vs) (hv : vs.toList[j]? = some v)
    (h : S w → XH P n ops KK S kk (listed.setIfInBounds i true) (up f d (v)) w) (hSw : S w) : XH P n ops KK S (kk + 1) listed f w :=
  XH_take ho hw rfl hd hok (fun w hS => by
      have hv' : vs[j]? = some v := by simpa using hv
      simp [execOp, hx, Instr.extract, hv']) h hSw
theorem o_nilc {d : Nat} {ty : TypeId} {pos : String} {aft : Array Edge} {g : Option (Nat × Bool)} {x : Operand} {a : Addr} (ho : ops.toList[i]? = some ⟨some d, .nilCheck x, ty, pos, aft, g⟩) (hw : wantedX ops n f g = true) (hd : Nat.blt d n = true) (hx : ev f x = .pointer (some a))
    (h : XO P n ops Q (i + 1) (up f d (.pointer (some a))) w) : XO P n ops Q i f w :=
  XO_val ho hw rfl hd (by simp [execOp, hx]) h
theorem q_nilc {d : Nat} {ty : TypeId} {pos : String} {aft : Array Edge} {g : Option (Nat × Bool)} {x : Operand} {a : Addr} (ho : ops.toList[i]? = some ⟨some d, .nilCheck x, ty, pos, aft, g⟩) (hw : wantedX ops n f g = true) (hd : Nat.blt d n = true) (hok : takeOk ops listed i = true) (hx : ev f x = .pointer (some a))
    (h : S w → XH P n ops KK S kk (listed.setIfInBounds i true) (up f d (.pointer (some a))) w) (hSw : S w) : XH P n ops KK S (kk + 1) listed f w :=
  XH_take ho hw rfl hd hok (fun w hS => by simp [execOp, hx]) h hSw
theorem o_fa {d : Nat} {ty : TypeId} {pos : String} {aft : Array Edge} {g : Option (Nat × Bool)} {x : Operand} {s : TypeId} {k b o : Nat} {fs : Array Field} {fl : Field} {sz : Nat} (off : Nat) (ho : ops.toList[i]? = some ⟨some d, .fieldAddr s x k, ty, pos, aft, g⟩) (hw : wantedX ops n f g = true) (hd : Nat.blt d n = true) (hs : P.underlying s = some (.struct fs)) (hfl : fs.toList[k]? = some fl) (hsz : ∀ w, (sizeOf fl.type).run P w = .ok sz w) (h0 : Nat.beq sz 0 = false) (hoff : fl.offset = off) (hx : ev f x = .pointer (some ⟨b, o, none⟩))
    (h : XO P n ops Q (i + 1) (up f d (.pointer (some ⟨b, o + off, none⟩))) w) : XO P n ops Q i f w :=
  XO_val ho hw rfl hd (by
      have hfl' : fs[k]? = some fl := by simpa using hfl
      have hz : sz ≠ 0 := Nat.ne_of_beq_eq_false h0
      subst hoff
      simp [execOp, hx, Instr.fieldAt, run_underlying hs, hfl', Instr.sureAddr, fieldPlace, hsz, hz, Addr.add_lit]) h
theorem q_fa {d : Nat} {ty : TypeId} {pos : String} {aft : Array Edge} {g : Option (Nat × Bool)} {x : Operand} {s : TypeId} {k b o : Nat} {fs : Array Field} {fl : Field} {sz : Nat} (off : Nat) (ho : ops.toList[i]? = some ⟨some d, .fieldAddr s x k, ty, pos, aft, g⟩) (hw : wantedX ops n f g = true) (hd : Nat.blt d n = true) (hok : takeOk ops listed i = true) (hs : P.underlying s = some (.struct fs)) (hfl : fs.toList[k]? = some fl) (hsz : ∀ w, (sizeOf fl.type).run P w = .ok sz w) (h0 : Nat.beq sz 0 = false) (hoff : fl.offset = off) (hx : ev f x = .pointer (some ⟨b, o, none⟩))
    (h : S w → XH P n ops KK S kk (listed.setIfInBounds i true) (up f d (.pointer (some ⟨b, o + off, none⟩))) w) (hSw : S w) : XH P n ops KK S (kk + 1) listed f w :=
  XH_take ho hw rfl hd hok (fun w hS => by
      have hfl' : fs[k]? = some fl := by simpa using hfl
      have hz : sz ≠ 0 := Nat.ne_of_beq_eq_false h0
      subst hoff
      simp [execOp, hx, Instr.fieldAt, run_underlying hs, hfl', Instr.sureAddr, fieldPlace, hsz, hz, Addr.add_lit]) h hSw
theorem o_fa0 {d : Nat} {ty : TypeId} {pos : String} {aft : Array Edge} {g : Option (Nat × Bool)} {x : Operand} {s : TypeId} {k b : Nat} {fs : Array Field} {fl : Field} {sz : Nat} (off : Nat) (ho : ops.toList[i]? = some ⟨some d, .fieldAddr s x k, ty, pos, aft, g⟩) (hw : wantedX ops n f g = true) (hd : Nat.blt d n = true) (hs : P.underlying s = some (.struct fs)) (hfl : fs.toList[k]? = some fl) (hsz : ∀ w, (sizeOf fl.type).run P w = .ok sz w) (h0 : Nat.beq sz 0 = false) (hoff : fl.offset = off) (hx : ev f x = .pointer (some ⟨b, 0, none⟩))
    (h : XO P n ops Q (i + 1) (up f d (.pointer (some ⟨b, off, none⟩))) w) : XO P n ops Q i f w :=
  XO_val ho hw rfl hd (by
      have hfl' : fs[k]? = some fl := by simpa using hfl
      have hz : sz ≠ 0 := Nat.ne_of_beq_eq_false h0
      subst hoff
      simp [execOp, hx, Instr.fieldAt, run_underlying hs, hfl', Instr.sureAddr, fieldPlace, hsz, hz, Addr.add_lit]) h
theorem q_fa0 {d : Nat} {ty : TypeId} {pos : String} {aft : Array Edge} {g : Option (Nat × Bool)} {x : Operand} {s : TypeId} {k b : Nat} {fs : Array Field} {fl : Field} {sz : Nat} (off : Nat) (ho : ops.toList[i]? = some ⟨some d, .fieldAddr s x k, ty, pos, aft, g⟩) (hw : wantedX ops n f g = true) (hd : Nat.blt d n = true) (hok : takeOk ops listed i = true) (hs : P.underlying s = some (.struct fs)) (hfl : fs.toList[k]? = some fl) (hsz : ∀ w, (sizeOf fl.type).run P w = .ok sz w) (h0 : Nat.beq sz 0 = false) (hoff : fl.offset = off) (hx : ev f x = .pointer (some ⟨b, 0, none⟩))
    (h : S w → XH P n ops KK S kk (listed.setIfInBounds i true) (up f d (.pointer (some ⟨b, off, none⟩))) w) (hSw : S w) : XH P n ops KK S (kk + 1) listed f w :=
  XH_take ho hw rfl hd hok (fun w hS => by
      have hfl' : fs[k]? = some fl := by simpa using hfl
      have hz : sz ≠ 0 := Nat.ne_of_beq_eq_false h0
      subst hoff
      simp [execOp, hx, Instr.fieldAt, run_underlying hs, hfl', Instr.sureAddr, fieldPlace, hsz, hz, Addr.add_lit]) h hSw
theorem o_field1 {d : Nat} {ty : TypeId} {pos : String} {aft : Array Edge} {g : Option (Nat × Bool)} {x : Operand} {s : TypeId} {k : Nat} {fs : Array Field} {fl : Field} {cs : Array Value} (v : Value) (ho : ops.toList[i]? = some ⟨some d, .field s x k, ty, pos, aft, g⟩) (hw : wantedX ops n f g = true) (hd : Nat.blt d n = true) (hs : P.underlying s = some (.struct fs)) (hfl : fs.toList[k]? = some fl) (ha : ∀ w, (isAgg fl.type).run P w = .ok false w) (hx : ev f x = .agg cs) (hv : cs.toList[fl.offset]? = some v)
    (h : XO P n ops Q (i + 1) (up f d (v)) w) : XO P n ops Q i f w :=
  XO_val ho hw rfl hd (by
      have hfl' : fs[k]? = some fl := by simpa using hfl
      have hv' : cs[fl.offset]? = some v := by simpa using hv
      simp [execOp, hx, Instr.field, run_underlying hs, hfl', asAgg, part, ha, hv']) h
theorem q_field1 {d : Nat} {ty : TypeId} {pos : String} {aft : Array Edge} {g : Option (Nat × Bool)} {x : Operand} {s : TypeId} {k : Nat} {fs : Array Field} {fl : Field} {cs : Array Value} (v : Value) (ho : ops.toList[i]? = some ⟨some d, .field s x k, ty, pos, aft, g⟩) (hw : wantedX ops n f g = true) (hd : Nat.blt d n = true) (hok : takeOk ops listed i = true) (hs : P.underlying s = some (.struct fs)) (hfl : fs.toList[k]? = some fl) (ha : ∀ w, (isAgg fl.type).run P w = .ok false w) (hx : ev f x = .agg cs) (hv : cs.toList[fl.offset]? = some v)
    (h : S w → XH P n ops KK S kk (listed.setIfInBounds i true) (up f d (v)) w) (hSw : S w) : XH P n ops KK S (kk + 1) listed f w :=
  XH_take ho hw rfl hd hok (fun w hS => by
      have hfl' : fs[k]? = some fl := by simpa using hfl
      have hv' : cs[fl.offset]? = some v := by simpa using hv
      simp [execOp, hx, Instr.field, run_underlying hs, hfl', asAgg, part, ha, hv']) h hSw
theorem o_fieldN {d : Nat} {ty : TypeId} {pos : String} {aft : Array Edge} {g : Option (Nat × Bool)} {x : Operand} {s : TypeId} {k sz : Nat} {fs : Array Field} {fl : Field} {cs : Array Value} (vs : List Value) (ho : ops.toList[i]? = some ⟨some d, .field s x k, ty, pos, aft, g⟩) (hw : wantedX ops n f g = true) (hd : Nat.blt d n = true) (hs : P.underlying s = some (.struct fs)) (hfl : fs.toList[k]? = some fl) (ha : ∀ w, (isAgg fl.type).run P w = .ok true w) (hsz : ∀ w, (sizeOf fl.type).run P w = .ok sz w) (hx : ev f x = .agg cs) (hv : (cs.toList.drop fl.offset).take sz = vs)
    (h : XO P n ops Q (i + 1) (up f d (.agg vs.toArray)) w) : XO P n ops Q i f w :=
  XO_val ho hw rfl hd (by
      have hfl' : fs[k]? = some fl := by simpa using hfl
      have hv' : cs.extract fl.offset (fl.offset + sz) = vs.toArray := by
        subst hv; apply Array.ext'; simp [Array.toList_extract, List.extract_eq_take_drop]
      simp [execOp, hx, Instr.field, run_underlying hs, hfl', asAgg, part, ha, hsz, hv']) h
theorem q_fieldN {d : Nat} {ty : TypeId} {pos : String} {aft : Array Edge} {g : Option (Nat × Bool)} {x : Operand} {s : TypeId} {k sz : Nat} {fs : Array Field} {fl : Field} {cs : Array Value} (vs : List Value) (ho : ops.toList[i]? = some ⟨some d, .field s x k, ty, pos, aft, g⟩) (hw : wantedX ops n f g = true) (hd : Nat.blt d n = true) (hok : takeOk ops listed i = true) (hs : P.underlying s = some (.struct fs)) (hfl : fs.toList[k]? = some fl) (ha : ∀ w, (isAgg fl.type).run P w = .ok true w) (hsz : ∀ w, (sizeOf fl.type).run P w = .ok sz w) (hx : ev f x = .agg cs) (hv : (cs.toList.drop fl.offset).take sz = vs)
    (h : S w → XH P n ops KK S kk (listed.setIfInBounds i true) (up f d (.agg vs.toArray)) w) (hSw : S w) : XH P n ops KK S (kk + 1) listed f w :=
  XH_take ho hw rfl hd hok (fun w hS => by
      have hfl' : fs[k]? = some fl := by simpa using hfl
      have hv' : cs.extract fl.offset (fl.offset + sz) = vs.toArray := by
        subst hv; apply Array.ext'; simp [Array.toList_extract, List.extract_eq_take_drop]
      simp [execOp, hx, Instr.field, run_underlying hs, hfl', asAgg, part, ha, hsz, hv']) h hSw
theorem o_ld {d : Nat} {ty : TypeId} {pos : String} {aft : Array Edge} {g : Option (Nat × Bool)} {x : Operand} {t : TypeId} {a : Addr} (v : Value) (ho : ops.toList[i]? = some ⟨some d, .load t x, ty, pos, aft, g⟩) (hw : wantedX ops n f g = true) (hd : Nat.blt d n = true) (ht : ∀ w, (isAgg t).run P w = .ok false w) (hx : ev f x = .pointer (some a)) (hl : w.cell? a = some v)
    (h : XO P n ops Q (i + 1) (up f d (v)) w) : XO P n ops Q i f w :=
  XO_val ho hw rfl hd (by simp [execOp, hx, Instr.loadAt, Instr.sureAddr, loadVar, ht, hl]) h
theorem q_ld {d : Nat} {ty : TypeId} {pos : String} {aft : Array Edge} {g : Option (Nat × Bool)} {x : Operand} {t : TypeId} {a : Addr} (v : Value) (ho : ops.toList[i]? = some ⟨some d, .load t x, ty, pos, aft, g⟩) (hw : wantedX ops n f g = true) (hd : Nat.blt d n = true) (hok : takeOk ops listed i = true) (ht : ∀ w, (isAgg t).run P w = .ok false w) (hx : ev f x = .pointer (some a)) (hl : ∀ w, S w → w.cell? a = some v)
    (h : S w → XH P n ops KK S kk (listed.setIfInBounds i true) (up f d (v)) w) (hSw : S w) : XH P n ops KK S (kk + 1) listed f w :=
  XH_take ho hw rfl hd hok (fun w hS => by
      have hl := hl w hS
      simp [execOp, hx, Instr.loadAt, Instr.sureAddr, loadVar, ht, hl]) h hSw
theorem o_ldB {d : Nat} {ty : TypeId} {pos : String} {aft : Array Edge} {g : Option (Nat × Bool)} {x : Operand} {t T : TypeId} {b o : Nat} {cs : Array Value} {z : Nat × Nat} (v : Value) (ho : ops.toList[i]? = some ⟨some d, .load t x, ty, pos, aft, g⟩) (hw : wantedX ops n f g = true) (hd : Nat.blt d n = true) (ht : ∀ w, (isAgg t).run P w = .ok false w) (hx : ev f x = .pointer (some ⟨b, o, none⟩)) (hB : At w b (.cells cs T z)) (hv : cs.toList[o]? = some v)
    (h : XO P n ops Q (i + 1) (up f d (v)) w) : XO P n ops Q i f w :=
  XO_val ho hw rfl hd (by
      have hl : w.cell? ⟨b, o, none⟩ = some v := by rw [hB.cell]; simpa using hv
      simp [execOp, hx, Instr.loadAt, Instr.sureAddr, loadVar, ht, hl]) h
theorem q_ldB {d : Nat} {ty : TypeId} {pos : String} {aft : Array Edge} {g : Option (Nat × Bool)} {x : Operand} {t T : TypeId} {b o : Nat} {cs : Array Value} {z : Nat × Nat} (v : Value) (ho : ops.toList[i]? = some ⟨some d, .load t x, ty, pos, aft, g⟩) (hw : wantedX ops n f g = true) (hd : Nat.blt d n = true) (hok : takeOk ops listed i = true) (ht : ∀ w, (isAgg t).run P w = .ok false w) (hx : ev f x = .pointer (some ⟨b, o, none⟩)) (hB : ∀ w, S w → At w b (.cells cs T z)) (hv : cs.toList[o]? = some v)
    (h : S w → XH P n ops KK S kk (listed.setIfInBounds i true) (up f d (v)) w) (hSw : S w) : XH P n ops KK S (kk + 1) listed f w :=
  XH_take ho hw rfl hd hok (fun w hS => by
      have hB := hB w hS
      have hl : w.cell? ⟨b, o, none⟩ = some v := by rw [hB.cell]; simpa using hv
      simp [execOp, hx, Instr.loadAt, Instr.sureAddr, loadVar, ht, hl]) h hSw
theorem o_ldN {d : Nat} {ty : TypeId} {pos : String} {aft : Array Edge} {g : Option (Nat × Bool)} {x : Operand} {t : TypeId} {a : Addr} {sz : Nat} (vs : List Value) (ho : ops.toList[i]? = some ⟨some d, .load t x, ty, pos, aft, g⟩) (hw : wantedX ops n f g = true) (hd : Nat.blt d n = true) (ht : ∀ w, (isAgg t).run P w = .ok true w) (hsz : ∀ w, (sizeOf t).run P w = .ok sz w) (hlen : vs.length = sz) (hx : ev f x = .pointer (some a)) (hl : ∀ j v, vs[j]? = some v → w.cell? (a.add j) = some v)
    (h : XO P n ops Q (i + 1) (up f d (.agg vs.toArray)) w) : XO P n ops Q i f w :=
  XO_val ho hw rfl hd (by subst hlen; simp [execOp, hx, Instr.loadAt, Instr.sureAddr, loadVar, ht, hsz, run_loadCells_list w a vs hl]) h
theorem q_ldN {d : Nat} {ty : TypeId} {pos : String} {aft : Array Edge} {g : Option (Nat × Bool)} {x : Operand} {t : TypeId} {a : Addr} {sz : Nat} (vs : List Value) (ho : ops.toList[i]? = some ⟨some d, .load t x, ty, pos, aft, g⟩) (hw : wantedX ops n f g = true) (hd : Nat.blt d n = true) (hok : takeOk ops listed i = true) (ht : ∀ w, (isAgg t).run P w = .ok true w) (hsz : ∀ w, (sizeOf t).run P w = .ok sz w) (hlen : vs.length = sz) (hx : ev f x = .pointer (some a)) (hl : ∀ w, S w → ∀ j v, vs[j]? = some v → w.cell? (a.add j) = some v)
    (h : S w → XH P n ops KK S kk (listed.setIfInBounds i true) (up f d (.agg vs.toArray)) w) (hSw : S w) : XH P n ops KK S (kk + 1) listed f w :=
  XH_take ho hw rfl hd hok (fun w hS => by
      have hl := hl w hS
      subst hlen; simp [execOp, hx, Instr.loadAt, Instr.sureAddr, loadVar, ht, hsz, run_loadCells_list w a vs hl]) h hSw
theorem o_len {d : Nat} {ty : TypeId} {pos : String} {aft : Array Edge} {g : Option (Nat × Bool)} {x : Operand} {t e : TypeId} {a : Option Addr} {l c : Nat} (ho : ops.toList[i]? = some ⟨some d, .call ⟨.builtin .len, #[x], #[t]⟩, ty, pos, aft, g⟩) (hw : wantedX ops n f g = true) (hd : Nat.blt d n = true) (ht : P.underlying t = some (.slice e)) (hx : ev f x = .slice a l c)
    (h : XO P n ops Q (i + 1) (up f d (.int .i64 (l : Int))) w) : XO P n ops Q i f w :=
  XO_val ho hw rfl hd (by simp [execOp, hx, resolve, invoke, builtin, Builtin.len_, run_underlying ht, goInt]) h
theorem q_len {d : Nat} {ty : TypeId} {pos : String} {aft : Array Edge} {g : Option (Nat × Bool)} {x : Operand} {t e : TypeId} {a : Option Addr} {l c : Nat} (ho : ops.toList[i]? = some ⟨some d, .call ⟨.builtin .len, #[x], #[t]⟩, ty, pos, aft, g⟩) (hw : wantedX ops n f g = true) (hd : Nat.blt d n = true) (hok : takeOk ops listed i = true) (ht : P.underlying t = some (.slice e)) (hx : ev f x = .slice a l c)
    (h : S w → XH P n ops KK S kk (listed.setIfInBounds i true) (up f d (.int .i64 (l : Int))) w) (hSw : S w) : XH P n ops KK S (kk + 1) listed f w :=
  XH_take ho hw rfl hd hok (fun w hS => by simp [execOp, hx, resolve, invoke, builtin, Builtin.len_, run_underlying ht, goInt]) h hSw
theorem o_lens {d : Nat} {ty : TypeId} {pos : String} {aft : Array Edge} {g : Option (Nat × Bool)} {x : Operand} {t : TypeId} {s : ByteArray} (ho : ops.toList[i]? = some ⟨some d, .call ⟨.builtin .len, #[x], #[t]⟩, ty, pos, aft, g⟩) (hw : wantedX ops n f g = true) (hd : Nat.blt d n = true) (ht : P.underlying t = some .string) (hx : ev f x = .string s)
    (h : XO P n ops Q (i + 1) (up f d (.int .i64 (s.size : Int))) w) : XO P n ops Q i f w :=
  XO_val ho hw rfl hd (by simp [execOp, hx, resolve, invoke, builtin, Builtin.len_, run_underlying ht, goInt]) h
theorem q_lens {d : Nat} {ty : TypeId} {pos : String} {aft : Array Edge} {g : Option (Nat × Bool)} {x : Operand} {t : TypeId} {s : ByteArray} (ho : ops.toList[i]? = some ⟨some d, .call ⟨.builtin .len, #[x], #[t]⟩, ty, pos, aft, g⟩) (hw : wantedX ops n f g = true) (hd : Nat.blt d n = true) (hok : takeOk ops listed i = true) (ht : P.underlying t = some .string) (hx : ev f x = .string s)
    (h : S w → XH P n ops KK S kk (listed.setIfInBounds i true) (up f d (.int .i64 (s.size : Int))) w) (hSw : S w) : XH P n ops KK S (kk + 1) listed f w :=
  XH_take ho hw rfl hd hok (fun w hS => by simp [execOp, hx, resolve, invoke, builtin, Builtin.len_, run_underlying ht, goInt]) h hSw
theorem o_lenm {d : Nat} {ty : TypeId} {pos : String} {aft : Array Edge} {g : Option (Nat × Bool)} {x : Operand} {t k e : TypeId} {r clock : Nat} {es : Array MapEntry} (ho : ops.toList[i]? = some ⟨some d, .call ⟨.builtin .len, #[x], #[t]⟩, ty, pos, aft, g⟩) (hw : wantedX ops n f g = true) (hd : Nat.blt d n = true) (ht : P.underlying t = some (.map k e)) (hx : ev f x = .map (some r)) (hm : At w r (.map es clock))
    (h : XO P n ops Q (i + 1) (up f d (.int .i64 (es.size : Int))) w) : XO P n ops Q i f w :=
  XO_val ho hw rfl hd (by unfold At at hm; simp [execOp, hx, resolve, invoke, builtin, Builtin.len_, run_underlying ht, goInt, getObj, Sem.run, hm]) h
theorem q_lenm {d : Nat} {ty : TypeId} {pos : String} {aft : Array Edge} {g : Option (Nat × Bool)} {x : Operand} {t k e : TypeId} {r clock : Nat} {es : Array MapEntry} (ho : ops.toList[i]? = some ⟨some d, .call ⟨.builtin .len, #[x], #[t]⟩, ty, pos, aft, g⟩) (hw : wantedX ops n f g = true) (hd : Nat.blt d n = true) (hok : takeOk ops listed i = true) (ht : P.underlying t = some (.map k e)) (hx : ev f x = .map (some r)) (hm : ∀ w, S w → At w r (.map es clock))
    (h : S w → XH P n ops KK S kk (listed.setIfInBounds i true) (up f d (.int .i64 (es.size : Int))) w) (hSw : S w) : XH P n ops KK S (kk + 1) listed f w :=
  XH_take ho hw rfl hd hok (fun w hS => by
      have hm := hm w hS
      unfold At at hm; simp [execOp, hx, resolve, invoke, builtin, Builtin.len_, run_underlying ht, goInt, getObj, Sem.run, hm]) h hSw
theorem o_cap {d : Nat} {ty : TypeId} {pos : String} {aft : Array Edge} {g : Option (Nat × Bool)} {x : Operand} {t e : TypeId} {a : Option Addr} {l c : Nat} (ho : ops.toList[i]? = some ⟨some d, .call ⟨.builtin .cap, #[x], #[t]⟩, ty, pos, aft, g⟩) (hw : wantedX ops n f g = true) (hd : Nat.blt d n = true) (ht : P.underlying t = some (.slice e)) (hx : ev f x = .slice a l c)
    (h : XO P n ops Q (i + 1) (up f d (.int .i64 (c : Int))) w) : XO P n ops Q i f w :=
  XO_val ho hw rfl hd (by simp [execOp, hx, resolve, invoke, builtin, Builtin.cap_, run_underlying ht, goInt]) h
theorem q_cap {d : Nat} {ty : TypeId} {pos : String} {aft : Array Edge} {g : Option (Nat × Bool)} {x : Operand} {t e : TypeId} {a : Option Addr} {l c : Nat} (ho : ops.toList[i]? = some ⟨some d, .call ⟨.builtin .cap, #[x], #[t]⟩, ty, pos, aft, g⟩) (hw : wantedX ops n f g = true) (hd : Nat.blt d n = true) (hok : takeOk ops listed i = true) (ht : P.underlying t = some (.slice e)) (hx : ev f x = .slice a l c)
    (h : S w → XH P n ops KK S kk (listed.setIfInBounds i true) (up f d (.int .i64 (c : Int))) w) (hSw : S w) : XH P n ops KK S (kk + 1) listed f w :=
  XH_take ho hw rfl hd hok (fun w hS => by simp [execOp, hx, resolve, invoke, builtin, Builtin.cap_, run_underlying ht, goInt]) h hSw
theorem o_min {d : Nat} {ty : TypeId} {pos : String} {aft : Array Edge} {g : Option (Nat × Bool)} {x y : Operand} {ts : Array TypeId} {k : IntKind} {a b : Int} (c : Int) (ho : ops.toList[i]? = some ⟨some d, .call ⟨.builtin .min, #[x, y], ts⟩, ty, pos, aft, g⟩) (hw : wantedX ops n f g = true) (hd : Nat.blt d n = true) (hx : ev f x = .int k a) (hy : ev f y = .int k b) (hc : (if b < a then b else a) = c)
    (h : XO P n ops Q (i + 1) (up f d (.int k c)) w) : XO P n ops Q i f w :=
  XO_val ho hw rfl hd (by subst hc; simp [execOp, hx, hy, resolve, invoke, builtin, Builtin.min_, Builtin.min2]) h
theorem q_min {d : Nat} {ty : TypeId} {pos : String} {aft : Array Edge} {g : Option (Nat × Bool)} {x y : Operand} {ts : Array TypeId} {k : IntKind} {a b : Int} (c : Int) (ho : ops.toList[i]? = some ⟨some d, .call ⟨.builtin .min, #[x, y], ts⟩, ty, pos, aft, g⟩) (hw : wantedX ops n f g = true) (hd : Nat.blt d n = true) (hok : takeOk ops listed i = true) (hx : ev f x = .int k a) (hy : ev f y = .int k b) (hc : (if b < a then b else a) = c)
    (h : S w → XH P n ops KK S kk (listed.setIfInBounds i true) (up f d (.int k c)) w) (hSw : S w) : XH P n ops KK S (kk + 1) listed f w :=
  XH_take ho hw rfl hd hok (fun w hS => by subst hc; simp [execOp, hx, hy, resolve, invoke, builtin, Builtin.min_, Builtin.min2]) h hSw
theorem o_max {d : Nat} {ty : TypeId} {pos : String} {aft : Array Edge} {g : Option (Nat × Bool)} {x y : Operand} {ts : Array TypeId} {k : IntKind} {a b : Int} (c : Int) (ho : ops.toList[i]? = some ⟨some d, .call ⟨.builtin .max, #[x, y], ts⟩, ty, pos, aft, g⟩) (hw : wantedX ops n f g = true) (hd : Nat.blt d n = true) (hx : ev f x = .int k a) (hy : ev f y = .int k b) (hc : (if b > a then b else a) = c)
    (h : XO P n ops Q (i + 1) (up f d (.int k c)) w) : XO P n ops Q i f w :=
  XO_val ho hw rfl hd (by subst hc; simp [execOp, hx, hy, resolve, invoke, builtin, Builtin.max_, Builtin.max2]) h
theorem q_max {d : Nat} {ty : TypeId} {pos : String} {aft : Array Edge} {g : Option (Nat × Bool)} {x y : Operand} {ts : Array TypeId} {k : IntKind} {a b : Int} (c : Int) (ho : ops.toList[i]? = some ⟨some d, .call ⟨.builtin .max, #[x, y], ts⟩, ty, pos, aft, g⟩) (hw : wantedX ops n f g = true) (hd : Nat.blt d n = true) (hok : takeOk ops listed i = true) (hx : ev f x = .int k a) (hy : ev f y = .int k b) (hc : (if b > a then b else a) = c)
    (h : S w → XH P n ops KK S kk (listed.setIfInBounds i true) (up f d (.int k c)) w) (hSw : S w) : XH P n ops KK S (kk + 1) listed f w :=
  XH_take ho hw rfl hd hok (fun w hS => by subst hc; simp [execOp, hx, hy, resolve, invoke, builtin, Builtin.max_, Builtin.max2]) h hSw
theorem o_ia {d : Nat} {ty : TypeId} {pos : String} {aft : Array Edge} {g : Option (Nat × Bool)} {x y : Operand} {t e : TypeId} {b o l c : Nat} {k : IntKind} {j : Int} (m : Nat) (ho : ops.toList[i]? = some ⟨some d, .indexAddr t x y, ty, pos, aft, g⟩) (hw : wantedX ops n f g = true) (hd : Nat.blt d n = true) (ht : P.underlying t = some (.slice e)) (hsz : ∀ w, (sizeOf e).run P w = .ok 1 w) (hx : ev f x = .slice (some ⟨b, o, none⟩) l c) (hy : ev f y = .int k j) (hj : j = (m : Int)) (hm : m < l)
    (h : XO P n ops Q (i + 1) (up f d (.pointer (some ⟨b, o + m, none⟩))) w) : XO P n ops Q i f w :=
  XO_val ho hw rfl hd (by
      subst hj
      simp [execOp, hx, hy, Instr.indexAt, run_underlying ht, asIntOf, hsz, hm, Addr.add_lit]) h
theorem q_ia {d : Nat} {ty : TypeId} {pos : String} {aft : Array Edge} {g : Option (Nat × Bool)} {x y : Operand} {t e : TypeId} {b o l c : Nat} {k : IntKind} {j : Int} (m : Nat) (ho : ops.toList[i]? = some ⟨some d, .indexAddr t x y, ty, pos, aft, g⟩) (hw : wantedX ops n f g = true) (hd : Nat.blt d n = true) (hok : takeOk ops listed i = true) (ht : P.underlying t = some (.slice e)) (hsz : ∀ w, (sizeOf e).run P w = .ok 1 w) (hx : ev f x = .slice (some ⟨b, o, none⟩) l c) (hy : ev f y = .int k j) (hj : j = (m : Int)) (hm : m < l)
    (h : S w → XH P n ops KK S kk (listed.setIfInBounds i true) (up f d (.pointer (some ⟨b, o + m, none⟩))) w) (hSw : S w) : XH P n ops KK S (kk + 1) listed f w :=
  XH_take ho hw rfl hd hok (fun w hS => by
      subst hj
      simp [execOp, hx, hy, Instr.indexAt, run_underlying ht, asIntOf, hsz, hm, Addr.add_lit]) h hSw
theorem o_iaN {d : Nat} {ty : TypeId} {pos : String} {aft : Array Edge} {g : Option (Nat × Bool)} {x y : Operand} {t e : TypeId} {b o l c sz : Nat} {k : IntKind} {j : Int} (m : Nat) (ho : ops.toList[i]? = some ⟨some d, .indexAddr t x y, ty, pos, aft, g⟩) (hw : wantedX ops n f g = true) (hd : Nat.blt d n = true) (ht : P.underlying t = some (.slice e)) (hsz : ∀ w, (sizeOf e).run P w = .ok sz w) (hx : ev f x = .slice (some ⟨b, o, none⟩) l c) (hy : ev f y = .int k j) (hj : j = (m : Int)) (hm : m < l)
    (h : XO P n ops Q (i + 1) (up f d (.pointer (some ⟨b, o + m * sz, none⟩))) w) : XO P n ops Q i f w :=
  XO_val ho hw rfl hd (by
      subst hj
      simp [execOp, hx, hy, Instr.indexAt, run_underlying ht, asIntOf, hsz, hm, Addr.add_lit]) h
theorem q_iaN {d : Nat} {ty : TypeId} {pos : String} {aft : Array Edge} {g : Option (Nat × Bool)} {x y : Operand} {t e : TypeId} {b o l c sz : Nat} {k : IntKind} {j : Int} (m : Nat) (ho : ops.toList[i]? = some ⟨some d, .indexAddr t x y, ty, pos, aft, g⟩) (hw : wantedX ops n f g = true) (hd : Nat.blt d n = true) (hok : takeOk ops listed i = true) (ht : P.underlying t = some (.slice e)) (hsz : ∀ w, (sizeOf e).run P w = .ok sz w) (hx : ev f x = .slice (some ⟨b, o, none⟩) l c) (hy : ev f y = .int k j) (hj : j = (m : Int)) (hm : m < l)
    (h : S w → XH P n ops KK S kk (listed.setIfInBounds i true) (up f d (.pointer (some ⟨b, o + m * sz, none⟩))) w) (hSw : S w) : XH P n ops KK S (kk + 1) listed f w :=
  XH_take ho hw rfl hd hok (fun w hS => by
      subst hj
      simp [execOp, hx, hy, Instr.indexAt, run_underlying ht, asIntOf, hsz, hm, Addr.add_lit]) h hSw
theorem o_iaA {d : Nat} {ty : TypeId} {pos : String} {aft : Array Edge} {g : Option (Nat × Bool)} {x y : Operand} {t e : TypeId} {b o len : Nat} {k : IntKind} {j : Int} (m : Nat) (ho : ops.toList[i]? = some ⟨some d, .indexAddr t x y, ty, pos, aft, g⟩) (hw : wantedX ops n f g = true) (hd : Nat.blt d n = true) (ht : P.underlying t = some (.array len e)) (hsz : ∀ w, (sizeOf e).run P w = .ok 1 w) (hx : ev f x = .pointer (some ⟨b, o, none⟩)) (hy : ev f y = .int k j) (hj : j = (m : Int)) (hm : m < len)
    (h : XO P n ops Q (i + 1) (up f d (.pointer (some ⟨b, o + m, none⟩))) w) : XO P n ops Q i f w :=
  XO_val ho hw rfl hd (by
      subst hj
      simp [execOp, hx, hy, Instr.indexAt, Instr.sureAddr, run_underlying ht, asIntOf, hsz, hm, Addr.add_lit]) h
theorem q_iaA {d : Nat} {ty : TypeId} {pos : String} {aft : Array Edge} {g : Option (Nat × Bool)} {x y : Operand} {t e : TypeId} {b o len : Nat} {k : IntKind} {j : Int} (m : Nat) (ho : ops.toList[i]? = some ⟨some d, .indexAddr t x y, ty, pos, aft, g⟩) (hw : wantedX ops n f g = true) (hd : Nat.blt d n = true) (hok : takeOk ops listed i = true) (ht : P.underlying t = some (.array len e)) (hsz : ∀ w, (sizeOf e).run P w = .ok 1 w) (hx : ev f x = .pointer (some ⟨b, o, none⟩)) (hy : ev f y = .int k j) (hj : j = (m : Int)) (hm : m < len)
    (h : S w → XH P n ops KK S kk (listed.setIfInBounds i true) (up f d (.pointer (some ⟨b, o + m, none⟩))) w) (hSw : S w) : XH P n ops KK S (kk + 1) listed f w :=
  XH_take ho hw rfl hd hok (fun w hS => by
      subst hj
      simp [execOp, hx, hy, Instr.indexAt, Instr.sureAddr, run_underlying ht, asIntOf, hsz, hm, Addr.add_lit]) h hSw
theorem o_mkf {d : Nat} {ty : TypeId} {pos : String} {aft : Array Edge} {g : Option (Nat × Bool)} {fn : Fn} {fi ca : Array Operand} {fv cv : List Value} (ho : ops.toList[i]? = some ⟨some d, .makeFunc fn fi ca, ty, pos, aft, g⟩) (hw : wantedX ops n f g = true) (hd : Nat.blt d n = true) (hf : fi.toList.map (ev f) = fv) (hc : ca.toList.map (ev f) = cv)
    (h : XO P n ops Q (i + 1) (up f d (.func fn fv.toArray cv.toArray)) w) : XO P n ops Q i f w :=
  XO_val ho hw rfl hd (by
      have e1 : fi.map (ev f) = fv.toArray := by subst hf; apply Array.ext'; simp
      have e2 : ca.map (ev f) = cv.toArray := by subst hc; apply Array.ext'; simp
      simp [execOp, Instr.makeFunc, e1, e2]) h
theorem q_mkf {d : Nat} {ty : TypeId} {pos : String} {aft : Array Edge} {g : Option (Nat × Bool)} {fn : Fn} {fi ca : Array Operand} {fv cv : List Value} (ho : ops.toList[i]? = some ⟨some d, .makeFunc fn fi ca, ty, pos, aft, g⟩) (hw : wantedX ops n f g = true) (hd : Nat.blt d n = true) (hok : takeOk ops listed i = true) (hf : fi.toList.map (ev f) = fv) (hc : ca.toList.map (ev f) = cv)
    (h : S w → XH P n ops KK S kk (listed.setIfInBounds i true) (up f d (.func fn fv.toArray cv.toArray)) w) (hSw : S w) : XH P n ops KK S (kk + 1) listed f w :=
  XH_take ho hw rfl hd hok (fun w hS => by
      have e1 : fi.map (ev f) = fv.toArray := by subst hf; apply Array.ext'; simp
      have e2 : ca.map (ev f) = cv.toArray := by subst hc; apply Array.ext'; simp
      simp [execOp, Instr.makeFunc, e1, e2]) h hSw
theorem o_mki {d : Nat} {ty : TypeId} {pos : String} {aft : Array Edge} {g : Option (Nat × Bool)} {x : Operand} {t : TypeId} (v : Value) (ho : ops.toList[i]? = some ⟨some d, .makeInterface t x, ty, pos, aft, g⟩) (hw : wantedX ops n f g = true) (hd : Nat.blt d n = true) (ht : (match P.underlying t with | some (.interface _) => false | some _ => true | none => false) = true) (hx : ev f x = v)
    (h : XO P n ops Q (i + 1) (up f d (.iface t v)) w) : XO P n ops Q i f w :=
  XO_val ho hw rfl hd (by
      cases hu : P.underlying t with
      | none => rw [hu] at ht; cases ht
      | some u => rw [hu] at ht; simp only [execOp, hx, Instr.makeInterface, Sem.run_bind, run_underlying hu, Result.andThen_ok]; cases u <;> first | rfl | (cases ht; done)) h
theorem q_mki {d : Nat} {ty : TypeId} {pos : String} {aft : Array Edge} {g : Option (Nat × Bool)} {x : Operand} {t : TypeId} (v : Value) (ho : ops.toList[i]? = some ⟨some d, .makeInterface t x, ty, pos, aft, g⟩) (hw : wantedX ops n f g = true) (hd : Nat.blt d n = true) (hok : takeOk ops listed i = true) (ht : (match P.underlying t with | some (.interface _) => false | some _ => true | none => false) = true) (hx : ev f x = v)
    (h : S w → XH P n ops KK S kk (listed.setIfInBounds i true) (up f d (.iface t v)) w) (hSw : S w) : XH P n ops KK S (kk + 1) listed f w :=
  XH_take ho hw rfl hd hok (fun w hS => by
      cases hu : P.underlying t with
      | none => rw [hu] at ht; cases ht
      | some u => rw [hu] at ht; simp only [execOp, hx, Instr.makeInterface, Sem.run_bind, run_underlying hu, Result.andThen_ok]; cases u <;> first | rfl | (cases ht; done)) h hSw

/-! ### What writes or makes memory: the world behind the operation is a letter, of which the change is known -/

theorem m_st {ty : TypeId} {pos : String} {aft : Array Edge} {g : Option (Nat × Bool)} {t T : TypeId} {x y : Operand} {b o : Nat} {cs : Array Value} (v : Value)
    (ht : ∀ w, (sizeOf t).run P w = .ok 1 w) (hx : ev f x = .pointer (some ⟨b, o, none⟩)) (hy : ev f y = v) (h1 : v.oneCell' = true) (hB : At w b (.cells cs T (0, 0))) (hlt : o < cs.size)
    (h : ∀ w', Chg (fun k => k = b) w w' → w'.heap.size = w.heap.size → At w' b (.cells (cs.setIfInBounds o v) T (0, 0)) → K undef w') : StepV P f ⟨ds, .store t x y, ty, pos, aft, g⟩ w K := by
  refine StepV.skip (w' := w.setCell ⟨b, o, none⟩ v) ?_ (h _ (Chg.setCell w _ v rfl) (by simp) (hB.setCell v))
  have hc : w.cell? ⟨b, o, none⟩ = some (cs[o]'hlt) := by rw [hB.cell]; simp [hlt]
  have hz : v.cells = #[v] := by cases v <;> first | rfl | (cases h1; done)
  simp [execOp, hx, hy, Instr.storeAt, Instr.sureAddr, storeVar, hz, ht, storeCells, Addr.add_zero', run_store P w ⟨b, o, none⟩ v .plain h1, hc, hB.unfrozen]

theorem m_box {ty : TypeId} {pos : String} {aft : Array Edge} {g : Option (Nat × Bool)} {t : TypeId} {x : Operand} (v : Value) (cl : List Value)
    (hx : ev f x = v) (hcl : v.cells.toList = cl) (h : ∀ w', Chg No w w' → w'.heap.size = w.heap.size + 1 → At w' w.heap.size (.cells cl.toArray t (0, 0)) → K (.pointer (some ⟨w.heap.size, 0, none⟩)) w') : StepV P f ⟨ds, .box t x, ty, pos, aft, g⟩ w K := by
  have e : v.cells = cl.toArray := by rw [← hcl]
  rw [← e] at h
  refine StepV.value (w' := w.alloc (.cells v.cells t)) ?_ (h _ (Chg.alloc _ w _) (by simp) (At.alloc w _))
  simp [execOp, hx, Instr.box, newVar, newRow]

theorem m_alloc {ty : TypeId} {pos : String} {aft : Array Edge} {g : Option (Nat × Bool)} {t : TypeId} {z : Value} (cl : List Value)
    (hz : ∀ w, (zeroValue t).run P w = .ok z w) (hcl : z.cells.toList = cl) (h : ∀ w', Chg No w w' → w'.heap.size = w.heap.size + 1 → At w' w.heap.size (.cells cl.toArray t (0, 0)) → K (.pointer (some ⟨w.heap.size, 0, none⟩)) w') : StepV P f ⟨ds, .alloc t, ty, pos, aft, g⟩ w K := by
  have e : z.cells = cl.toArray := by rw [← hcl]
  rw [← e] at h
  refine StepV.value (w' := w.alloc (.cells z.cells t)) ?_ (h _ (Chg.alloc _ w _) (by simp) (At.alloc w _))
  simp [execOp, Instr.alloc, newVar, newRow, hz]

theorem m_mkm {ty : TypeId} {pos : String} {aft : Array Edge} {g : Option (Nat × Bool)} {t : TypeId}
    (h : ∀ w', Chg No w w' → w'.heap.size = w.heap.size + 1 → At w' w.heap.size (.map #[] 0) → K (.map (some w.heap.size)) w') : StepV P f ⟨ds, .makeMap t none, ty, pos, aft, g⟩ w K := by
  refine StepV.value (w' := w.alloc (.map #[] 0)) ?_ (h _ (Chg.alloc _ w _) (by simp) (At.alloc w _))
  simp [execOp, Instr.makeMap]

/-! ### Calls -/

theorem m_call {ty : TypeId} {pos : String} {aft : Array Edge} {gd : Option (Nat × Bool)} {g : FuncId} {args : Array Operand} {tys : Array TypeId} {vs : List Value} {R : Value → World → Prop}
    (hc : ∀ as w, (callFunc g as).run P w = .ok (.enter g as) w) (hC : Ret P g vs.toArray w R) (hv : args.toList.map (ev f) = vs)
    (h : ∀ v w', R v w' → K v w') : StepV P f ⟨ds, .call ⟨.value (.func g), args, tys⟩, ty, pos, aft, gd⟩ w K := by
  refine StepV.enter ?_ hC h
  have e : args.map (ev f) = vs.toArray := by subst hv; apply Array.ext'; simp
  simp [execOp, resolve, Deferred.ofValue, ev, invoke, hc, e]
/-- A function value in a slot: what it bears first, the call's arguments, what it captured. -/
theorem m_callv {ty : TypeId} {pos : String} {aft : Array Edge} {gd : Option (Nat × Bool)} {g : FuncId} {x : Operand} {args : Array Operand} {tys : Array TypeId} {fi ca : Array Value} {vs : List Value} {R : Value → World → Prop}
    (hx : ev f x = .func (.func g) fi ca) (hc : ∀ as w, (callFunc g as).run P w = .ok (.enter g as) w) (hC : Ret P g vs.toArray w R) (hv : fi.toList ++ args.toList.map (ev f) ++ ca.toList = vs)
    (h : ∀ v w', R v w' → K v w') : StepV P f ⟨ds, .call ⟨.value x, args, tys⟩, ty, pos, aft, gd⟩ w K := by
  refine StepV.enter ?_ hC h
  have e : fi ++ args.map (ev f) ++ ca = vs.toArray := by subst hv; apply Array.ext'; simp
  simp only [execOp, resolve, Deferred.ofValue, hx, invoke, Sem.run_bind, Sem.run_pure, Result.andThen_ok, hc, e]
end
end Go.Proofs.Ytijjnlfmlcbfpaa

/- The core of an own walk over the translated operations: a frame is read as a function from slots to values, and each operation has one rule. Holds for every program. -/
import Derived.Tactics
import Derived.Orders
import Derived.OrdersHeld
import Derived.Laws.Cells
import Derived.Laws.Bits
import Derived.KernelRfl
namespace Go.Proofs.Ytijjnlfmlcbfpaa
open Go

/-! ## Worlds: what is at a block, and what a step has changed -/

def At (w : World) (b : Nat) (o : Obj) : Prop := w.heap[b]? = some o

structure Chg (M : Nat → Prop) (w w' : World) : Prop where
  os : w'.os = w.os
  tape : w'.tape = w.tape
  output : w'.output = w.output
  size : w.heap.size ≤ w'.heap.size
  keep : ∀ b, b < w.heap.size → ¬ M b → w'.heap[b]? = w.heap[b]?

def No : Nat → Prop := fun _ => False

theorem At.lt {w : World} {b : Nat} {o : Obj} (h : At w b o) : b < w.heap.size := by
  rcases Nat.lt_or_ge b w.heap.size with hl | hl
  · exact hl
  · unfold At at h; rw [Array.getElem?_eq_none hl] at h; cases h
theorem At.keep {w w' : World} {b : Nat} {o : Obj} {M : Nat → Prop} (h : At w b o) (c : Chg M w w') (hn : ¬ M b) : At w' b o := (c.keep b h.lt hn).trans h
theorem At.inj {w : World} {b : Nat} {o o' : Obj} (h : At w b o) (h' : At w b o') : o = o' := by
  unfold At at h h'; rw [h] at h'; injection h'
theorem At.cell {w : World} {b : Nat} {cs : Array Value} {t : TypeId} {z : Nat × Nat} (h : At w b (.cells cs t z)) (i : Nat) : w.cell? ⟨b, i, none⟩ = cs[i]? := by
  unfold At at h; simp [World.cell?, h]
theorem At.unfrozen {w : World} {b : Nat} {cs : Array Value} {t : TypeId} (h : At w b (.cells cs t (0, 0))) (i : Nat) : w.frozen? ⟨b, i, none⟩ = false := by
  unfold At at h; simp [World.frozen?, h]
theorem At.shape {w : World} {b : Nat} {cs : Array Value} {t : TypeId} {z : Nat × Nat} (h : At w b (.cells cs t z)) : w.shape? b = some (t, cs.size) := by
  unfold At at h; simp [World.shape?, h]

theorem Chg.refl (M : Nat → Prop) (w : World) : Chg M w w := ⟨rfl, rfl, rfl, Nat.le_refl _, fun _ _ _ => rfl⟩
theorem Chg.trans {M : Nat → Prop} {a b c : World} (h : Chg M a b) (k : Chg M b c) : Chg M a c :=
  ⟨k.os.trans h.os, k.tape.trans h.tape, k.output.trans h.output, Nat.le_trans h.size k.size,
   fun i hi hn => (k.keep i (Nat.lt_of_lt_of_le hi h.size) hn).trans (h.keep i hi hn)⟩
/-- Two steps, each with its own changes; what was new behind the first may have been changed by the second. -/
theorem Chg.then {M M1 M2 : Nat → Prop} {a b c : World} (h : Chg M1 a b) (k : Chg M2 b c) (h1 : ∀ i, i < a.heap.size → M1 i → M i) (h2 : ∀ i, i < a.heap.size → M2 i → M i) : Chg M a c :=
  ⟨k.os.trans h.os, k.tape.trans h.tape, k.output.trans h.output, Nat.le_trans h.size k.size,
   fun i hi hn => (k.keep i (Nat.lt_of_lt_of_le hi h.size) (fun hm => hn (h2 i hi hm))).trans (h.keep i hi (fun hm => hn (h1 i hi hm)))⟩
theorem Chg.mono {M M' : Nat → Prop} {a b : World} (h : Chg M a b) (hm : ∀ i, i < a.heap.size → M i → M' i) : Chg M' a b :=
  ⟨h.os, h.tape, h.output, h.size, fun i hi hn => h.keep i hi (fun x => hn (hm i hi x))⟩
theorem Chg.drew (M : Nat → Prop) (w : World) : Chg M w w.drew := ⟨rfl, rfl, rfl, Nat.le_refl _, fun _ _ _ => rfl⟩
theorem Chg.alloc (M : Nat → Prop) (w : World) (o : Obj) : Chg M w (w.alloc o) :=
  ⟨rfl, rfl, rfl, by simp, fun b hb _ => by show (w.heap.push o)[b]? = _; rw [Array.getElem?_push, if_neg (by omega)]⟩
theorem At.alloc (w : World) (o : Obj) : At (w.alloc o) w.heap.size o := by show (w.heap.push o)[w.heap.size]? = _; simp
theorem Chg.setCell {M : Nat → Prop} (w : World) (a : Addr) (v : Value) (h : M a.block) : Chg M w (w.setCell a v) :=
  ⟨rfl, rfl, rfl, by simp, fun b _ hn => by
    simp only [World.setCell, Array.getElem?_modify]
    rw [if_neg (fun (e : _ = b) => hn (e ▸ h))]⟩
theorem At.setCell {w : World} {b i : Nat} {cs : Array Value} {t : TypeId} {z : Nat × Nat} (h : At w b (.cells cs t z)) (v : Value) : At (w.setCell ⟨b, i, none⟩ v) b (.cells (cs.setIfInBounds i v) t z) := by
  unfold At at *
  simp [World.setCell, Array.getElem?_modify, h]
def World.put (w : World) (b : Nat) (o : Obj) : World := { w with heap := w.heap.setIfInBounds b o }
theorem Chg.put {M : Nat → Prop} (w : World) (b : Nat) (o : Obj) (h : M b) : Chg M w (World.put w b o) :=
  ⟨rfl, rfl, rfl, by simp [World.put], fun i _ hn => by
    simp only [World.put, Array.getElem?_setIfInBounds]
    rw [if_neg (fun (e : b = i) => hn (e ▸ h))]⟩
theorem At.put {w : World} {b : Nat} {o o' : Obj} (h : At w b o) : At (World.put w b o') b o' := by
  have := h.lt
  unfold At
  simp [World.put, this]

/-! ## Frames -/

abbrev Fr := Nat → Value
def up (f : Fr) (d : Nat) (v : Value) : Fr := fun t => bif Nat.beq t d then v else f t
def ups (f : Fr) : List (Nat × Value) → Fr
  | [] => f
  | (d, v) :: r => up (ups f r) d v
def ev (f : Fr) : Operand → Value
  | .tmp t => f t
  | .const v => v
  | .global g => .pointer (some ⟨g, 0, none⟩)
  | .func g => .func (.func g) #[] #[]
def Agrees (f : Fr) (l : List (Nat × Value)) : Prop := ups f l = f

theorem up_self {f : Fr} {d : Nat} {v : Value} (h : f d = v) : up f d v = f := by
  funext t
  unfold up
  cases hb : Nat.beq t d with
  | false => rfl
  | true => have : t = d := Nat.eq_of_beq_eq_true hb; subst this; exact h.symm
theorem Agrees.nil (f : Fr) : Agrees f [] := rfl
theorem Agrees.cons {f : Fr} {d : Nat} {v : Value} {l : List (Nat × Value)} (h : f d = v) (hl : Agrees f l) : Agrees f ((d, v) :: l) := by
  show up (ups f l) d v = f
  rw [show ups f l = f from hl]
  exact up_self h

def Fits (a : Act) (n : Nat) (f : Fr) : Prop := a.tmps.size = n ∧ a.defers = [] ∧ ∀ t, a.tmps.getD t undef = f t

theorem Fits.eval {a : Act} {n : Nat} {f : Fr} (h : Fits a n f) : a.eval = ev f := by
  funext x
  cases x with
  | tmp t => exact h.2.2 t
  | const v => rfl
  | global g => rfl
  | func g => rfl
theorem blt_iff {a b : Nat} : Nat.blt a b = true ↔ a < b := by
  show Nat.ble (a + 1) b = true ↔ _
  rw [Nat.ble_eq]; exact Iff.rfl
theorem Fits.put {a : Act} {n : Nat} {f : Fr} (h : Fits a n f) {d : Nat} (hd : Nat.blt d n = true) (v : Value) : Fits (a.put (some d) v) n (up f d v) := by
  have hlt : d < n := blt_iff.1 hd
  refine ⟨by simp [Act.put, h.1], h.2.1, fun t => ?_⟩
  unfold up
  cases hb : Nat.beq t d with
  | true =>
    have : t = d := Nat.eq_of_beq_eq_true hb
    subst this
    have hs : t < a.tmps.size := by rw [h.1]; exact hlt
    simp [Act.put, Array.getD, hs]
  | false =>
    have hne : t ≠ d := Nat.ne_of_beq_eq_false hb
    show _ = f t
    rw [← h.2.2 t]
    simp only [Act.put, Array.getD_eq_getD_getElem?, Array.getElem?_setIfInBounds]
    rw [if_neg (fun e => hne e.symm)]

/-! ## Code by paths -/

def _root_.Go.Func.code (fn : Func) : Code := fn.body.getD .skip
def _root_.Go.Code.fst : Code → Code
  | .seq x _ => x
  | .cond _ x _ => x
  | .block _ x => x
  | .loop x => x
  | .rangeFunc _ _ x _ => x
  | c => c
def _root_.Go.Code.snd : Code → Code
  | .seq _ y => y
  | .cond _ _ y => y
  | .rangeFunc _ _ _ y => y
  | c => c
def _root_.Go.Code.opsOf : Code → Array Oper
  | .region _ ops _ => ops
  | _ => #[]
def tagSeq : Code → Bool | .seq _ _ => true | _ => false
def tagLoop : Code → Bool | .loop _ => true | _ => false
def tagBlock (id : Nat) : Code → Bool | .block i _ => Nat.beq i id | _ => false
def tagCond (x : Operand) : Code → Prop | .cond y _ _ => y = x | _ => False
def tagRegion (draw : Bool) : Code → Bool | .region _ _ b => b == draw | _ => false

/-! ## The predicate of a walk -/

def lift (n : Nat) (Q : Exit → Fr → World → Prop) : Exit → Act → World → Prop := fun e a w => ∃ f, Fits a n f ∧ Q e f w
def XC (P : Program) (n : Nat) (c : Code) (Q : Exit → Fr → World → Prop) (f : Fr) (w : World) : Prop := ∀ a, Fits a n f → c.wp P (lift n Q) a w
def XO (P : Program) (n : Nat) (ops : Array Oper) (Q : Exit → Fr → World → Prop) (i : Nat) (f : Fr) (w : World) : Prop :=
  ∀ a, Fits a n f → wpList P ops (lift n Q) (ops.toList.drop i) a w

def thenX (K : Fr → World → Prop) (Q : Exit → Fr → World → Prop) : Exit → Fr → World → Prop
  | .normal, f, w => K f w
  | e, f, w => Q e f w
def inBlockX (id : Nat) (Q : Exit → Fr → World → Prop) : Exit → Fr → World → Prop
  | .exit i, f, w => if Nat.beq i id = true then Q .normal f w else Q (.exit i) f w
  | e, f, w => Q e f w
def topX (R : Fr → World → Prop) : Exit → Fr → World → Prop
  | .normal, f, w => R f w
  | .ret, f, w => R f w
  | _, _, _ => False

theorem thenX_normal {K : Fr → World → Prop} {Q : Exit → Fr → World → Prop} {f : Fr} {w : World} (h : K f w) : thenX K Q .normal f w := h
theorem thenX_ret {K : Fr → World → Prop} {Q : Exit → Fr → World → Prop} {f : Fr} {w : World} (h : Q .ret f w) : thenX K Q .ret f w := h
theorem thenX_exit {K : Fr → World → Prop} {Q : Exit → Fr → World → Prop} {f : Fr} {w : World} {i : Nat} (h : Q (.exit i) f w) : thenX K Q (.exit i) f w := h
theorem inBlockX_normal {id : Nat} {Q : Exit → Fr → World → Prop} {f : Fr} {w : World} (h : Q .normal f w) : inBlockX id Q .normal f w := h
theorem inBlockX_ret {id : Nat} {Q : Exit → Fr → World → Prop} {f : Fr} {w : World} (h : Q .ret f w) : inBlockX id Q .ret f w := h
theorem inBlockX_here {id : Nat} {Q : Exit → Fr → World → Prop} {f : Fr} {w : World} (h : Q .normal f w) : inBlockX id Q (.exit id) f w := by
  show if Nat.beq id id = true then _ else _
  rw [if_pos (Nat.beq_refl id)]; exact h
theorem inBlockX_past {id i : Nat} {Q : Exit → Fr → World → Prop} {f : Fr} {w : World} (hn : Nat.beq i id = false) (h : Q (.exit i) f w) : inBlockX id Q (.exit i) f w := by
  show if Nat.beq i id = true then _ else _
  rw [if_neg (by rw [hn]; decide)]; exact h
theorem topX_normal {R : Fr → World → Prop} {f : Fr} {w : World} (h : R f w) : topX R .normal f w := h
theorem topX_ret {R : Fr → World → Prop} {f : Fr} {w : World} (h : R f w) : topX R .ret f w := h

section
variable {P : Program} {n : Nat} {c : Code} {Q : Exit → Fr → World → Prop} {f : Fr} {w : World}

theorem XC.mono {Q' : Exit → Fr → World → Prop} (h : XC P n c Q f w) (hq : ∀ e f w, Q e f w → Q' e f w) : XC P n c Q' f w :=
  fun a ha => wp_mono (h a ha) fun e a' w' ⟨f', hf, q⟩ => ⟨f', hf, hq e f' w' q⟩

theorem XC_seq (hc : tagSeq c = true) (h : XC P n c.fst (thenX (XC P n c.snd Q) Q) f w) : XC P n c Q f w := by
  cases c <;> try (first | (cases hc; done) | exact hc.elim)
  rename_i x y
  intro a ha
  refine wp_seq (wp_mono (h a ha) fun e a2 w2 hq => ?_)
  obtain ⟨f', hf, q⟩ := hq
  cases e with
  | normal => exact q _ hf
  | _ => exact ⟨f', hf, q⟩

theorem XC_skip (hc : c = .skip) (h : Q .normal f w) : XC P n c Q f w := by subst hc; exact fun a ha => wp_skip ⟨f, ha, h⟩
theorem XC_ret (hc : c = .ret) (h : Q .ret f w) : XC P n c Q f w := by subst hc; exact fun a ha => wp_ret ⟨f, ha, h⟩
theorem XC_exit {id : Nat} (hc : c = .exit id) (h : Q (.exit id) f w) : XC P n c Q f w := by subst hc; exact fun a ha => wp_exit ⟨f, ha, h⟩

theorem XC_block {id : Nat} (hc : tagBlock id c = true) (h : XC P n c.fst (inBlockX id Q) f w) : XC P n c Q f w := by
  cases c <;> try (first | (cases hc; done) | exact hc.elim)
  rename_i i x
  have : i = id := Nat.eq_of_beq_eq_true hc
  subst this
  intro a ha
  refine wp_block (wp_mono (h a ha) fun e a' w' hq => ?_)
  obtain ⟨f', hf, q⟩ := hq
  cases e with
  | exit j =>
    show if j = i then _ else _
    by_cases hj : j = i
    · rw [if_pos hj]
      refine ⟨f', hf, ?_⟩
      have : (if Nat.beq j i = true then Q .normal f' w' else Q (.exit j) f' w') := q
      rw [if_pos (by rw [hj]; exact Nat.beq_refl i)] at this
      exact this
    · rw [if_neg hj]
      refine ⟨f', hf, ?_⟩
      have : (if Nat.beq j i = true then Q .normal f' w' else Q (.exit j) f' w') := q
      rw [if_neg (fun hb => hj (Nat.eq_of_beq_eq_true hb))] at this
      exact this
  | _ => exact ⟨f', hf, q⟩

theorem XC_cond {x : Operand} {t : Bool} (hc : tagCond x c) (hx : ev f x = .bool t) (h1 : t = true → XC P n c.fst Q f w) (h0 : t = false → XC P n c.snd Q f w) : XC P n c Q f w := by
  cases c <;> try (first | (cases hc; done) | exact hc.elim)
  rename_i y c1 c2
  obtain rfl : y = x := hc
  intro a ha
  refine wp_cond_split (t := t) (by rw [ha.eval]; exact hx) (fun e => h1 e a ha) (fun e => h0 e a ha)
theorem XC_cond_true {x : Operand} (hc : tagCond x c) (hx : ev f x = .bool true) (h1 : XC P n c.fst Q f w) : XC P n c Q f w :=
  XC_cond hc hx (fun _ => h1) (fun e => by cases e)
theorem XC_cond_false {x : Operand} (hc : tagCond x c) (hx : ev f x = .bool false) (h0 : XC P n c.snd Q f w) : XC P n c Q f w :=
  XC_cond hc hx (fun e => by cases e) (fun _ => h0)

/-- A loop: what holds at every round's head, of the slots that are named, under a measure that falls. -/
theorem XC_loop (I : Nat → List (Nat × Value) → World → Prop) (hc : tagLoop c = true) (m : Nat) (l : List (Nat × Value)) (hl : Agrees f l) (h0 : I m l w)
    (round : ∀ m l w g, I m l w → XC P n c.fst (thenX (fun f' w' => ∃ m' l', m' < m ∧ Agrees f' l' ∧ I m' l' w') Q) (ups g l) w) : XC P n c Q f w := by
  cases c <;> try (first | (cases hc; done) | exact hc.elim)
  rename_i x
  intro a ha
  let J : Act → World → Nat → Prop := fun a w m => ∃ f l, Fits a n f ∧ Agrees f l ∧ I m l w
  -- the least measure that serves is the loop's
  have hex : ∀ a w, (∃ m, J a w m) → ∃ m, J a w m ∧ ∀ k, J a w k → m ≤ k := by
    intro a w ⟨m, hm⟩
    induction m using Nat.strongRecOn with
    | _ m ih =>
      by_cases hk : ∃ k, k < m ∧ J a w k
      · obtain ⟨k, hlt, hj⟩ := hk; exact ih k hlt hj
      · exact ⟨m, hm, fun k hj => Nat.le_of_not_lt fun hlt => hk ⟨k, hlt, hj⟩⟩
  let μ : Act → World → Nat := fun a w => @dite Nat (∃ m, J a w m) (Classical.propDecidable _) (fun h => Classical.choose (hex a w h)) (fun _ => 0)
  have hμ : ∀ a w (h : ∃ m, J a w m), J a w (μ a w) ∧ ∀ k, J a w k → μ a w ≤ k := by
    intro a w h
    have e : μ a w = Classical.choose (hex a w h) := by simp only [μ]; rw [dif_pos h]
    rw [e]
    exact Classical.choose_spec (hex a w h)
  refine wp_loop (fun a w => ∃ m, J a w m) μ ⟨m, f, l, ha, hl, h0⟩ ?_
  intro a w hj
  obtain ⟨⟨f, l, hf, hl, hi⟩, _⟩ := hμ a w hj
  have hr := round (μ a w) l w f hi
  rw [hl] at hr
  refine wp_mono (hr a hf) fun e a' w' hq => ?_
  obtain ⟨f', hf', q⟩ := hq
  cases e with
  | normal =>
    obtain ⟨m', l', hlt, hag, hi'⟩ := q
    have hj' : J a' w' m' := ⟨f', l', hf', hag, hi'⟩
    exact ⟨⟨m', hj'⟩, Nat.lt_of_le_of_lt ((hμ a' w' ⟨m', hj'⟩).2 m' hj') hlt⟩
  | _ => exact ⟨f', hf', q⟩

/-- Ways meet again: what holds behind a piece of code, of the slots that are named. -/
theorem XC_cut (J : List (Nat × Value) → World → Prop) (hc : tagSeq c = true)
    (h1 : XC P n c.fst (thenX (fun f' w' => ∃ l', Agrees f' l' ∧ J l' w') Q) f w)
    (h2 : ∀ l w g, J l w → XC P n c.snd Q (ups g l) w) : XC P n c Q f w := by
  refine XC_seq hc (h1.mono fun e f' w' q => ?_)
  cases e with
  | normal =>
    obtain ⟨l', hag, hj⟩ := q
    have := h2 l' w' f' hj
    rw [hag] at this
    exact this
  | _ => exact q

/-! ## Regions -/

theorem XC_region (hc : tagRegion false c = true) (h : XO P n c.opsOf Q 0 f w) : XC P n c Q f w := by
  cases c <;> try (first | (cases hc; done) | exact hc.elim)
  rename_i id ops draw
  have : draw = false := by simpa [tagRegion] using hc
  subst this
  intro a ha
  exact wp_region_list (by simpa [Code.opsOf] using h a ha)

variable {ops : Array Oper} {i : Nat}

theorem XO_end (ho : ops.toList[i]? = none) (h : Q .normal f w) : XO P n ops Q i f w := by
  intro a ha
  have : ops.toList.drop i = [] := by rw [List.drop_eq_nil_iff]; exact List.getElem?_eq_none_iff.1 ho
  rw [this]
  exact ⟨f, ha, h⟩

def wantedX (ops : Array Oper) (n : Nat) (f : Fr) (g : Option (Nat × Bool)) : Bool :=
  match g with
  | none => true
  | some (j, want) =>
    match (ops.toList[j]?).bind (·.dst) with
    | some d => bif Nat.blt d n then (match f d with | .bool b => b == want | _ => false) else false
    | none => false

theorem wanted_eq {a : Act} (ha : Fits a n f) (o : Oper) : Region.wanted o (yielded ops a.tmps) = wantedX ops n f o.guard := by
  unfold Region.wanted wantedX
  cases hg : o.guard with
  | none => rfl
  | some jw =>
    obtain ⟨j, want⟩ := jw
    simp only
    unfold yielded
    have hj : ops.toList[j]? = ops[j]? := by simp
    rw [hj]
    cases hd : (ops[j]?).bind (·.dst) with
    | none => rfl
    | some d =>
      simp only [Option.bind_some]
      have hf := ha.2.2 d
      by_cases hlt : d < n
      · have hb : Nat.blt d n = true := blt_iff.2 hlt
        rw [hb]
        have hs : d < a.tmps.size := by rw [ha.1]; exact hlt
        simp only [Array.getD_eq_getD_getElem?, Array.getElem?_eq_getElem hs, Option.getD_some] at hf
        rw [Array.getElem?_eq_getElem hs, hf]
        simp only [cond_true]
        cases f d <;> simp
      · have hb : Nat.blt d n = false := by
          cases h : Nat.blt d n with
          | false => rfl
          | true => exact absurd (blt_iff.1 h) hlt
        rw [hb]
        have hs : ¬ d < a.tmps.size := by rw [ha.1]; exact hlt
        rw [Array.getElem?_eq_none (Nat.le_of_not_lt hs)]
        rfl

theorem drop_of {o : Oper} (ho : ops.toList[i]? = some o) : ops.toList.drop i = o :: ops.toList.drop (i + 1) := by
  obtain ⟨hlt, he⟩ := List.getElem?_eq_some_iff.1 ho
  rw [List.drop_eq_getElem_cons hlt, he]

/-- An operation that yields a value. -/
theorem XO_val {o : Oper} {d : Nat} {v : Value} {w' : World} (ho : ops.toList[i]? = some o) (hw : wantedX ops n f o.guard = true) (hdst : o.dst = some d) (hd : Nat.blt d n = true)
    (hr : (execOp (ev f) o).run P w = .ok (.value v) w') (h : XO P n ops Q (i + 1) (up f d v) w') : XO P n ops Q i f w := by
  intro a ha
  rw [drop_of ho]
  unfold wpList
  rw [wanted_eq ha, if_pos hw]
  left
  unfold Oper.wp
  rw [ha.eval, hr, Oper.upon_value, hdst]
  exact h _ (ha.put hd v)
theorem XO_none {o : Oper} {v : Value} {w' : World} (ho : ops.toList[i]? = some o) (hw : wantedX ops n f o.guard = true) (hdst : o.dst = none)
    (hr : (execOp (ev f) o).run P w = .ok (.value v) w') (h : XO P n ops Q (i + 1) f w') : XO P n ops Q i f w := by
  intro a ha
  rw [drop_of ho]
  unfold wpList
  rw [wanted_eq ha, if_pos hw]
  left
  unfold Oper.wp
  rw [ha.eval, hr, Oper.upon_value, hdst]
  exact h _ ha
/-- An operation that yields nothing (a store). -/
theorem XO_skipped {o : Oper} {w' : World} (ho : ops.toList[i]? = some o) (hw : wantedX ops n f o.guard = true) (hdst : o.dst = none)
    (hr : (execOp (ev f) o).run P w = .ok .skip w') (h : XO P n ops Q (i + 1) f w') : XO P n ops Q i f w := by
  intro a ha
  rw [drop_of ho]
  unfold wpList
  rw [wanted_eq ha, if_pos hw]
  left
  unfold Oper.wp
  rw [ha.eval, hr, Oper.upon_skip, hdst]
  exact h _ ha
/-- An operation whose guard bars it. -/
theorem XO_barred {o : Oper} {d : Nat} (ho : ops.toList[i]? = some o) (hw : wantedX ops n f o.guard = false) (hdst : o.dst = some d) (hd : Nat.blt d n = true)
    (h : XO P n ops Q (i + 1) (up f d undef) w) : XO P n ops Q i f w := by
  intro a ha
  rw [drop_of ho]
  unfold wpList
  rw [wanted_eq ha, if_neg (by rw [hw]; decide), hdst]
  exact h _ (ha.put hd undef)
theorem XO_barred_none {o : Oper} (ho : ops.toList[i]? = some o) (hw : wantedX ops n f o.guard = false) (hdst : o.dst = none)
    (h : XO P n ops Q (i + 1) f w) : XO P n ops Q i f w := by
  intro a ha
  rw [drop_of ho]
  unfold wpList
  rw [wanted_eq ha, if_neg (by rw [hw]; decide), hdst]
  exact h _ ha

/-- A slot that holds a bool: both cases, the slot then literal. -/
theorem XO_bool {b : Bool} (d : Nat) (hb : f d = .bool b) (h1 : b = true → XO P n ops Q i (up f d (.bool true)) w) (h0 : b = false → XO P n ops Q i (up f d (.bool false)) w) : XO P n ops Q i f w := by
  cases b with
  | true => have := h1 rfl; rwa [up_self hb] at this
  | false => have := h0 rfl; rwa [up_self hb] at this
theorem XC_bool {b : Bool} (d : Nat) (hb : f d = .bool b) (h1 : b = true → XC P n c Q (up f d (.bool true)) w) (h0 : b = false → XC P n c Q (up f d (.bool false)) w) : XC P n c Q f w := by
  cases b with
  | true => have := h1 rfl; rwa [up_self hb] at this
  | false => have := h0 rfl; rwa [up_self hb] at this

/-- What one operation comes to: a value, nothing, or a call that returns. -/
def StepV (P : Program) (f : Fr) (o : Oper) (w : World) (K : Value → World → Prop) : Prop :=
  (∃ v w', (execOp (ev f) o).run P w = .ok (.value v) w' ∧ K v w') ∨ (∃ w', (execOp (ev f) o).run P w = .ok .skip w' ∧ K undef w') ∨
  (∃ g args, (execOp (ev f) o).run P w = .ok (.enter g args) w ∧ Calls P g args w fun e w' => match e with | .returned v => K v w' | _ => False)

theorem step_wp {o : Oper} {a : Act} {K : Value → World → Prop} {next : Act → World → Prop} {Q : Exit → Act → World → Prop} (ha : Fits a n f) (hs : StepV P f o w K) (h : ∀ v w', K v w' → next (a.put o.dst v) w') : o.wp P a w next Q := by
  unfold Oper.wp
  rw [ha.eval]
  rcases hs with ⟨v, w', hr, hk⟩ | ⟨w', hr, hk⟩ | ⟨g, args, hr, hk⟩
  · rw [hr, Oper.upon_value]; exact h _ _ hk
  · rw [hr, Oper.upon_skip]; exact h _ _ hk
  · rw [hr, Oper.upon_enter]
    exact Calls.mono hk fun e w' he => by cases e <;> first | exact h _ _ he | exact he.elim

theorem XO_stepd {o : Oper} {d : Nat} (ho : ops.toList[i]? = some o) (hw : wantedX ops n f o.guard = true) (hdst : o.dst = some d) (hd : Nat.blt d n = true)
    (hs : StepV P f o w fun v w' => XO P n ops Q (i + 1) (up f d v) w') : XO P n ops Q i f w := by
  intro a ha
  rw [drop_of ho]
  unfold wpList
  rw [wanted_eq ha, if_pos hw]
  left
  exact step_wp ha hs fun v w' hk => by rw [hdst]; exact hk _ (ha.put hd v)
theorem XO_stepn {o : Oper} (ho : ops.toList[i]? = some o) (hw : wantedX ops n f o.guard = true) (hdst : o.dst = none)
    (hs : StepV P f o w fun _ w' => XO P n ops Q (i + 1) f w') : XO P n ops Q i f w := by
  intro a ha
  rw [drop_of ho]
  unfold wpList
  rw [wanted_eq ha, if_pos hw]
  left
  exact step_wp ha hs fun v w' hk => by rw [hdst]; exact hk _ ha

/-! ## Regions whose order is open: one way through serves every order -/

/-- What is left of a region: 'listed' have come up; 'S' holds of the world all the while. -/
def XH (P : Program) (n : Nat) (ops : Array Oper) (K : Fr → World → Prop) (S : World → Prop) (k : Nat) (listed : Array Bool) (f : Fr) (w : World) : Prop :=
  S w ∧ ∀ a, Fits a n f → wpAnyH P .any ops (lift n (thenX K fun _ _ _ => False)) S k listed a w

def takeOk (ops : Array Oper) (listed : Array Bool) (i : Nat) : Bool := Region.noSelect ops && Region.free .any ops listed i && (Region.ready .any ops listed).contains i

variable {K : Fr → World → Prop} {S : World → Prop} {k : Nat} {listed : Array Bool}

theorem XH_take {o : Oper} {d : Nat} {v : Value} (ho : ops.toList[i]? = some o) (hw : wantedX ops n f o.guard = true) (hdst : o.dst = some d) (hd : Nat.blt d n = true) (hok : takeOk ops listed i = true)
    (hr : ∀ w, S w → (execOp (ev f) o).run P w = .ok (.value v) w) (h : S w → XH P n ops K S k (listed.setIfInBounds i true) (up f d v) w) (hS : S w) : XH P n ops K S (k + 1) listed f w := by
  simp only [takeOk, Bool.and_eq_true] at hok
  refine ⟨hS, fun a ha => ?_⟩
  have ho' : ops[i]? = some o := by simpa using ho
  refine wpAnyH_take ho' hok.1.1 hok.1.2 hok.2 (fun c a w hq => ?_) (.inl ⟨by rw [wanted_eq ha]; exact hw, fun w' hS' => by rw [ha.eval]; exact hr w' hS'⟩) hS ?_
  · obtain ⟨f', _, hf⟩ := hq; exact hf.elim
  · rw [hdst]; exact (h hS).2 _ (ha.put hd v)
theorem XH_barred {o : Oper} {d : Nat} (ho : ops.toList[i]? = some o) (hw : wantedX ops n f o.guard = false) (hdst : o.dst = some d) (hd : Nat.blt d n = true) (hok : takeOk ops listed i = true)
    (h : S w → XH P n ops K S k (listed.setIfInBounds i true) (up f d undef) w) (hS : S w) : XH P n ops K S (k + 1) listed f w := by
  simp only [takeOk, Bool.and_eq_true] at hok
  refine ⟨hS, fun a ha => ?_⟩
  have ho' : ops[i]? = some o := by simpa using ho
  refine wpAnyH_take ho' hok.1.1 hok.1.2 hok.2 (fun c a w hq => ?_) (.inr ⟨by rw [wanted_eq ha]; exact hw, rfl⟩) hS ?_
  · obtain ⟨f', _, hf⟩ := hq; exact hf.elim
  · rw [hdst]; exact (h hS).2 _ (ha.put hd undef)
theorem XH_stepd {o : Oper} {d : Nat} (ho : ops.toList[i]? = some o) (hw : wantedX ops n f o.guard = true) (hdst : o.dst = some d) (hd : Nat.blt d n = true) (hr : Region.ready .any ops listed = [i])
    (hS : S w) (hs : StepV P f o w fun v w' => XH P n ops K S k (listed.setIfInBounds i true) (up f d v) w') : XH P n ops K S (k + 1) listed f w := by
  refine ⟨hS, fun a ha => ?_⟩
  have ho' : ops[i]? = some o := by simpa using ho
  refine wpAnyH_all hr (by simp) fun j hj => ?_
  simp only [List.mem_singleton] at hj
  subst hj
  unfold wpOp
  simp only [ho']
  rw [wanted_eq ha, if_pos hw]
  left
  exact step_wp ha hs fun v w' hk => by rw [hdst]; exact ⟨hk.1, hk.2 _ (ha.put hd v)⟩
theorem XH_stepn {o : Oper} (ho : ops.toList[i]? = some o) (hw : wantedX ops n f o.guard = true) (hdst : o.dst = none) (hr : Region.ready .any ops listed = [i])
    (hS : S w) (hs : StepV P f o w fun v w' => XH P n ops K S k (listed.setIfInBounds i true) f w') : XH P n ops K S (k + 1) listed f w := by
  refine ⟨hS, fun a ha => ?_⟩
  have ho' : ops[i]? = some o := by simpa using ho
  refine wpAnyH_all hr (by simp) fun j hj => ?_
  simp only [List.mem_singleton] at hj
  subst hj
  unfold wpOp
  simp only [ho']
  rw [wanted_eq ha, if_pos hw]
  left
  exact step_wp ha hs fun v w' hk => by rw [hdst]; exact ⟨hk.1, hk.2 _ ha⟩
/-- One of several operations that may come up now. -/
def XHop (P : Program) (n : Nat) (ops : Array Oper) (K : Fr → World → Prop) (S : World → Prop) (k : Nat) (listed : Array Bool) (f : Fr) (w : World) (i : Nat) : Prop :=
  ∀ a, Fits a n f → wpOp P ops (lift n (thenX K fun _ _ _ => False)) i (fun a' w' => S w' ∧ wpAnyH P .any ops (lift n (thenX K fun _ _ _ => False)) S k (listed.setIfInBounds i true) a' w') a w
theorem XHop_stepd {o : Oper} {d : Nat} (ho : ops.toList[i]? = some o) (hw : wantedX ops n f o.guard = true) (hdst : o.dst = some d) (hd : Nat.blt d n = true)
    (hs : StepV P f o w fun v w' => XH P n ops K S k (listed.setIfInBounds i true) (up f d v) w') : XHop P n ops K S k listed f w i := by
  intro a ha
  have ho' : ops[i]? = some o := by simpa using ho
  unfold wpOp
  simp only [ho']
  rw [wanted_eq ha, if_pos hw]
  left
  exact step_wp ha hs fun v w' hk => by rw [hdst]; exact ⟨hk.1, hk.2 _ (ha.put hd v)⟩
theorem XHop_stepn {o : Oper} (ho : ops.toList[i]? = some o) (hw : wantedX ops n f o.guard = true) (hdst : o.dst = none)
    (hs : StepV P f o w fun v w' => XH P n ops K S k (listed.setIfInBounds i true) f w') : XHop P n ops K S k listed f w i := by
  intro a ha
  have ho' : ops[i]? = some o := by simpa using ho
  unfold wpOp
  simp only [ho']
  rw [wanted_eq ha, if_pos hw]
  left
  exact step_wp ha hs fun v w' hk => by rw [hdst]; exact ⟨hk.1, hk.2 _ ha⟩
theorem XH_some (l : List Nat) (hr : Region.ready .any ops listed = l) (hne : l.isEmpty = false) (hS : S w) (h : ∀ i ∈ l, XHop P n ops K S k listed f w i) : XH P n ops K S (k + 1) listed f w :=
  ⟨hS, fun a ha => wpAnyH_all hr (by intro e; subst e; cases hne) fun x hx => h x hx a ha⟩
theorem XH_done (hr : Region.ready .any ops listed = []) (hS : S w) (h : K f w) : XH P n ops K S k listed f w :=
  ⟨hS, fun a ha => wpAnyH_done hr ⟨f, ha, h⟩ k⟩
theorem XH_bool {b : Bool} (d : Nat) (hb : f d = .bool b) (h1 : b = true → XH P n ops K S k listed (up f d (.bool true)) w) (h0 : b = false → XH P n ops K S k listed (up f d (.bool false)) w) : XH P n ops K S k listed f w := by
  cases b with
  | true => have := h1 rfl; rwa [up_self hb] at this
  | false => have := h0 rfl; rwa [up_self hb] at this
theorem XH_lit (d : Nat) (v : Value) (hv : f d = v) (h : XH P n ops K S k listed (up f d v) w) : XH P n ops K S k listed f w := by rwa [up_self hv] at h
theorem XH.state (h : S w → XH P n ops K S k listed f w) (hS : S w) : XH P n ops K S k listed f w := h hS

theorem XC_draw (S : World → Prop) (hm : P.follows .mixedOrders = true) (hc : tagRegion true c = true) (sz : Nat) (hsz : c.opsOf.size = sz)
    (h : ∀ w', Chg No w w' → w'.heap = w.heap → XH P n c.opsOf (Q .normal) S sz (Array.replicate sz false) f w') : XC P n c Q f w := by
  cases c <;> try (first | (cases hc; done) | exact hc.elim)
  rename_i id ops draw
  have : draw = true := by simpa [tagRegion] using hc
  subst this
  intro a ha
  have hx := (h w.drew (Chg.drew No w) rfl).2 a ha
  rw [← hsz] at hx
  refine wp_mono (wp_region_held hm hx) fun e a' w' hq => ?_
  obtain ⟨f', hf, q⟩ := hq
  cases e with
  | normal => exact ⟨f', hf, q⟩
  | _ => exact q.elim

theorem XO_lit (d : Nat) (v : Value) (hv : f d = v) (h : XO P n ops Q i (up f d v) w) : XO P n ops Q i f w := by rwa [up_self hv] at h
theorem XC_lit (d : Nat) (v : Value) (hv : f d = v) (h : XC P n c Q (up f d v) w) : XC P n c Q f w := by rwa [up_self hv] at h

/-! ## Calls -/

/-- The call returns, with a value and a world of which R holds. -/
def Ret (P : Program) (g : FuncId) (args : Array Value) (w : World) (R : Value → World → Prop) : Prop :=
  Calls P g args w fun e w' => match e with | .returned v => R v w' | _ => False

theorem Ret.mono {g : FuncId} {args : Array Value} {R R' : Value → World → Prop} (h : Ret P g args w R) (hr : ∀ v w', R v w' → R' v w') : Ret P g args w R' :=
  Calls.mono h fun e w' he => by cases e <;> first | exact hr _ _ he | exact he
theorem Ret.calls {g : FuncId} {args : Array Value} {R : Value → World → Prop} (h : Ret P g args w R) : Calls P g args w fun e w' => ∃ v, e = .returned v ∧ R v w' :=
  Calls.mono h fun e w' he => by cases e <;> first | exact ⟨_, rfl, he⟩ | exact he.elim
theorem Ret.of_calls {g : FuncId} {args : Array Value} {R : Value → World → Prop} (h : Calls P g args w fun e w' => ∃ v, e = .returned v ∧ R v w') : Ret P g args w R :=
  Calls.mono h fun e w' he => by obtain ⟨v, rfl, hr⟩ := he; exact hr

theorem upon_ret {o : Oper} {a : Act} {next : Act → World → Prop} {Q : Exit → Act → World → Prop} {g : FuncId} {args : Array Value} {R : Value → World → Prop}
    (hC : Ret P g args w R) (h : ∀ v w', R v w' → next (a.put o.dst v) w') : o.upon P a next Q (.ok (.enter g args) w) := by
  rw [Oper.upon_enter]
  exact Calls.mono hC fun e w' he => by cases e <;> first | exact h _ _ he | exact he.elim

theorem XO_enter {o : Oper} {d : Nat} {g : FuncId} {args : Array Value} {R : Value → World → Prop} (ho : ops.toList[i]? = some o) (hw : wantedX ops n f o.guard = true) (hdst : o.dst = some d) (hd : Nat.blt d n = true)
    (hr : (execOp (ev f) o).run P w = .ok (.enter g args) w) (hC : Ret P g args w R) (h : ∀ v w', R v w' → XO P n ops Q (i + 1) (up f d v) w') : XO P n ops Q i f w := by
  intro a ha
  rw [drop_of ho]
  unfold wpList
  rw [wanted_eq ha, if_pos hw]
  left
  unfold Oper.wp
  rw [ha.eval, hr]
  refine upon_ret hC fun v w' hR => ?_
  rw [hdst]
  exact h v w' hR _ (ha.put hd v)
theorem XO_enter_none {o : Oper} {g : FuncId} {args : Array Value} {R : Value → World → Prop} (ho : ops.toList[i]? = some o) (hw : wantedX ops n f o.guard = true) (hdst : o.dst = none)
    (hr : (execOp (ev f) o).run P w = .ok (.enter g args) w) (hC : Ret P g args w R) (h : ∀ v w', R v w' → XO P n ops Q (i + 1) f w') : XO P n ops Q i f w := by
  intro a ha
  rw [drop_of ho]
  unfold wpList
  rw [wanted_eq ha, if_pos hw]
  left
  unfold Oper.wp
  rw [ha.eval, hr]
  refine upon_ret hC fun v w' hR => ?_
  rw [hdst]
  exact h v w' hR _ ha

theorem StepV.enter {o : Oper} {g : FuncId} {args : Array Value} {R K : Value → World → Prop} (hr : (execOp (ev f) o).run P w = .ok (.enter g args) w) (hC : Ret P g args w R) (h : ∀ v w', R v w' → K v w') : StepV P f o w K :=
  .inr (.inr ⟨g, args, hr, hC.mono h⟩)
theorem StepV.value {o : Oper} {v : Value} {w' : World} {K : Value → World → Prop} (hr : (execOp (ev f) o).run P w = .ok (.value v) w') (h : K v w') : StepV P f o w K := .inl ⟨v, w', hr, h⟩
theorem StepV.skip {o : Oper} {w' : World} {K : Value → World → Prop} (hr : (execOp (ev f) o).run P w = .ok .skip w') (h : K undef w') : StepV P f o w K := .inr (.inl ⟨w', hr, h⟩)

/-- A function's first frame: the arguments' slots, every other one not yet set. -/
def fr0 (l : List Value) : Fr := fun t => l.getD t undef

def resultX (f : Fr) : List ResultVar → Value
  | [.tmp t] => f t
  | l => .tuple (l.map fun | .tmp t => f t | .cell _ _ => undef).toArray
def plainResults (l : List ResultVar) : Bool := l.all fun | .tmp _ => true | .cell _ _ => false

theorem mapM_plain (f : Fr) (g : ResultVar → Sem Value) (hg : ∀ t w, (g (.tmp t)).run P w = .ok (f t) w) : ∀ l : List ResultVar, plainResults l = true → ∀ w : World, (l.mapM g).run P w = .ok (l.map fun | .tmp t => f t | .cell _ _ => undef) w := by
  intro l
  induction l with
  | nil => intro _ w; simp
  | cons x r ih =>
    intro hp w
    simp only [plainResults, List.all_cons, Bool.and_eq_true] at hp
    cases x with
    | cell _ _ => exact absurd hp.1 (by simp)
    | tmp t => simp only [List.mapM_cons, Sem.run_bind, Sem.run_pure, Result.andThen_ok, hg, ih hp.2 w, List.map_cons]
theorem results_plain {fn : Func} {a : Act} {n : Nat} {f : Fr} (ha : Fits a n f) (hp : plainResults fn.results.toList = true) : (results fn a.tmps).run P w = .ok (resultX f fn.results.toList) w := by
  unfold results
  rw [show fn.results = fn.results.toList.toArray from by simp]
  generalize fn.results.toList = l at hp ⊢
  simp only [List.mapM_toArray, Sem.run_bind, Sem.run_map]
  rw [mapM_plain f _ (fun t w => by simp only [Sem.run_pure, ha.2.2 t]) l hp w]
  simp only [Result.andThen_ok, Sem.run_pure]
  congr 1
  match l, hp with
  | [], _ => rfl
  | [.tmp t], _ => rfl
  | x :: y :: r, _ => simp [resultX]

/-- The result, behind a name, till its form is given. -/
def RetV (R : Value → World → Prop) (v : Value) (w : World) : Prop := R v w
theorem RetV_of {R : Value → World → Prop} {v0 : Value} {w : World} (v : Value) (hv : v0 = v) (h : R v w) : RetV R v0 w := by subst hv; exact h

theorem Ret_of_X {g : FuncId} {fn : Func} {l : List Value} {R : Value → World → Prop} (n : Nat) (hf : P.funcs[g]? = some fn) (hb : fn.body.isSome = true) (hn : fn.ntmps = n) (hl : Nat.ble l.length n = true) (hp : plainResults fn.results.toList = true)
    (h : XC P n fn.code (topX fun f w' => RetV R (resultX f fn.results.toList) w') (fr0 l) w) : Ret P g l.toArray w R := by
  obtain ⟨c, hc⟩ := Option.isSome_iff_exists.1 hb
  have hcode : fn.code = c := by simp [Func.code, hc]
  rw [hcode] at h
  have hle : l.length ≤ n := Nat.le_of_ble_eq_true hl
  refine calls_of_wp hf hc ?_
  refine wp_mono (h _ ⟨?_, rfl, ?_⟩) fun e a' w' hq => ?_
  · simp [hn]; omega
  · intro t
    simp only [fr0, Array.getD_eq_getD_getElem?, List.getD_eq_getElem?_getD]
    by_cases ht : t < l.length
    · rw [Array.getElem?_append_left (by simpa using ht)]; simp
    · rw [Array.getElem?_append_right (by simpa using Nat.le_of_not_lt ht), List.getElem?_eq_none (Nat.le_of_not_lt ht)]
      simp only [Option.getD_none, Array.getElem?_replicate]
      split <;> rfl
  · obtain ⟨f', hf', q⟩ := hq
    have hres := results_plain (P := P) (w := w') (fn := fn) hf' hp
    cases e with
    | normal => exact ⟨hf'.2.1, _, hres, q⟩
    | ret => exact ⟨hf'.2.1, _, hres, q⟩
    | _ => exact q.elim

end
end Go.Proofs.Ytijjnlfmlcbfpaa

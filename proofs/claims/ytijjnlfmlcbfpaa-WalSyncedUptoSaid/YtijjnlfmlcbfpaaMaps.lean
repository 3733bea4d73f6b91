/- Maps whose keys are ints, and going through them: what they hold, and one rule for each operation on them. Holds for every program. -/
import Derived.Test.YtijjnlfmlcbfpaaMem
set_option linter.unusedSimpArgs false
set_option linter.unusedVariables false
namespace Go.Proofs.Ytijjnlfmlcbfpaa
open Go

abbrev IMap := List (Int × Value)
def kv (p : Int × Value) : Value × Value := (.int .i64 p.1, p.2)
def ekv (e : MapEntry) : Value × Value := (e.key, e.val)
structure Fitm (es : Array MapEntry) (clock : Nat) (m : IMap) : Prop where
  eq : es.toList.map ekv = m.map kv
  keys : (m.map (·.1)).Nodup
  borns : (es.toList.map (·.born)).Nodup
  old : ∀ e ∈ es.toList, e.born < clock
def MapAt (w : World) (r : Nat) (m : IMap) : Prop := ∃ es clock, At w r (.map es clock) ∧ Fitm es clock m

def mset : IMap → Int → Value → IMap
  | [], k, v => [(k, v)]
  | (a, u) :: r, k, v => if k = a then (k, v) :: r else (a, u) :: mset r k v
def mget : IMap → Int → Option Value
  | [], _ => none
  | (a, u) :: r, k => if k = a then some u else mget r k
def mdel : IMap → Int → IMap
  | [], _ => []
  | (a, u) :: r, k => if k = a then r else (a, u) :: mdel r k

theorem mget_mset (m : IMap) (k j : Int) (v : Value) : mget (mset m k v) j = if j = k then some v else mget m j := by
  induction m with
  | nil => simp [mset, mget]
  | cons p r ih =>
    obtain ⟨a, u⟩ := p
    unfold mset
    by_cases h : k = a
    · subst h
      rw [if_pos rfl]
      by_cases hj : j = k <;> simp [mget, hj]
    · rw [if_neg h]
      simp only [mget, ih]
      by_cases hj : j = k
      · subst hj; simp [h]
      · by_cases hja : j = a
        · subst hja; simp [hj]
        · simp [hj, hja]
theorem mem_mset {m : IMap} {k a : Int} {v : Value} : a ∈ (mset m k v).map (·.1) ↔ a = k ∨ a ∈ m.map (·.1) := by
  induction m with
  | nil => simp [mset]
  | cons p r ih =>
    obtain ⟨b, u⟩ := p
    unfold mset
    by_cases h : k = b
    · subst h; rw [if_pos rfl]; simp
    · rw [if_neg h]; simp only [List.map_cons, List.mem_cons, ih]
      constructor
      · rintro (h1 | h1 | h1) <;> simp [h1]
      · rintro (h1 | h1 | h1) <;> simp [h1]
theorem nodup_mset {m : IMap} {k : Int} {v : Value} (h : (m.map (·.1)).Nodup) : ((mset m k v).map (·.1)).Nodup := by
  induction m with
  | nil => simp [mset]
  | cons p r ih =>
    obtain ⟨b, u⟩ := p
    simp only [List.map_cons, List.nodup_cons] at h
    unfold mset
    by_cases hk : k = b
    · subst hk; rw [if_pos rfl]; simpa using h
    · rw [if_neg hk]
      simp only [List.map_cons, List.nodup_cons]
      exact ⟨fun hm => by rcases mem_mset.1 hm with e | e; exact hk e.symm; exact h.1 e, ih h.2⟩
theorem mget_none {m : IMap} {k : Int} : mget m k = none ↔ k ∉ m.map (·.1) := by
  induction m with
  | nil => simp [mget]
  | cons p r ih =>
    obtain ⟨b, u⟩ := p
    by_cases h : k = b
    · subst h; simp [mget]
    · rw [show mget ((b, u) :: r) k = mget r k from by simp [mget, h], ih]; simp [h]
theorem mget_mem {m : IMap} (hn : (m.map (·.1)).Nodup) {k : Int} {v : Value} : mget m k = some v ↔ (k, v) ∈ m := by
  induction m with
  | nil => simp [mget]
  | cons p r ih =>
    obtain ⟨b, u⟩ := p
    simp only [List.map_cons, List.nodup_cons] at hn
    by_cases h : k = b
    · subst h
      simp only [mget, if_pos, Option.some.injEq, List.mem_cons, Prod.mk.injEq, true_and]
      constructor
      · intro e; exact .inl e.symm
      · rintro (e | e)
        · exact e.symm
        · exact absurd (List.mem_map_of_mem (f := (·.1)) e) hn.1
    · rw [show mget ((b, u) :: r) k = mget r k from by simp [mget, h], ih hn.2]; simp [h]
theorem mget_perm {m m' : IMap} (hp : m.Perm m') (hn : (m.map (·.1)).Nodup) (k : Int) : mget m k = mget m' k := by
  have hn' : (m'.map (·.1)).Nodup := (hp.map _).nodup_iff.1 hn
  cases h : mget m k with
  | none =>
    cases h' : mget m' k with
    | none => rfl
    | some v => exact absurd ((mget_mem hn).2 (hp.mem_iff.2 ((mget_mem hn').1 h'))) (by rw [h]; simp)
  | some v => exact ((mget_mem hn').2 (hp.mem_iff.1 ((mget_mem hn).1 h))).symm

/-! ## What the model's search finds -/

def mfind : IMap → Int → Nat → Option (Nat × Value)
  | [], _, _ => none
  | (a, u) :: r, k, j => if k = a then some (j, u) else mfind r k (j + 1)
theorem mfind_get (m : IMap) (k : Int) : ∀ j, (mfind m k j).map (·.2) = mget m k := by
  induction m with
  | nil => intro j; rfl
  | cons p r ih => intro j; obtain ⟨a, u⟩ := p; by_cases h : k = a <;> simp [mfind, mget, h, ih]
theorem findNow_eq (kd : IntKind) (k : Int) : ∀ (es : List MapEntry) (m : IMap) (j : Nat), es.map ekv = m.map kv → Instr.findNow (.int kd) (.int .i64 k) es j = some (mfind m k j)
  | [], m, j, h => by
    cases m with
    | nil => rfl
    | cons p r => simp at h
  | e :: es, m, j, h => by
    cases m with
    | nil => simp at h
    | cons p r =>
      obtain ⟨a, u⟩ := p
      simp only [List.map_cons, List.cons.injEq] at h
      obtain ⟨h1, h2⟩ := h
      have hk : e.key = .int .i64 a := congrArg Prod.fst h1
      have hv : e.val = u := congrArg Prod.snd h1
      have ih := findNow_eq kd k es r (j + 1) h2
      unfold Instr.findNow
      simp only [hk, Instr.sameNow, if_true, mfind]
      by_cases hka : k = a
      · simp [hka, hv]
      · rw [show (k == a) = false from by simpa using hka, if_neg hka]; exact ih
theorem modify_eq (k : Int) (v : Value) : ∀ (es : List MapEntry) (m : IMap) (j i : Nat) (u : Value), es.map ekv = m.map kv → mfind m k j = some (i, u) →
    ∃ i', i = j + i' ∧ i' < es.length ∧ (es[i']?.map (·.key)) = some (.int .i64 k) ∧ (es.modify i' fun e => { e with key := .int .i64 k, val := v }).map ekv = (mset m k v).map kv
  | [], m, j, i, u, h, hf => by
    cases m with
    | nil => simp [mfind] at hf
    | cons p r => simp at h
  | e :: es, m, j, i, u, h, hf => by
    cases m with
    | nil => simp at h
    | cons p r =>
      obtain ⟨a, u'⟩ := p
      simp only [List.map_cons, List.cons.injEq] at h
      obtain ⟨h1, h2⟩ := h
      have hk : e.key = .int .i64 a := congrArg Prod.fst h1
      by_cases hka : k = a
      · subst hka
        simp only [mfind, if_true, Option.some.injEq, Prod.mk.injEq] at hf
        refine ⟨0, by omega, by simp, by simp [hk], ?_⟩
        simp [mset, ekv, kv, h2]
      · simp only [mfind, if_neg hka] at hf
        obtain ⟨i', hi, hl, hkk, hm⟩ := modify_eq k v es r (j + 1) i u h2 hf
        refine ⟨i' + 1, by omega, by simp; exact hl, by simpa using hkk, ?_⟩
        simp only [List.modify_succ_cons, List.map_cons, hm, mset, if_neg hka, h1]
theorem mset_new {m : IMap} {k : Int} (v : Value) (h : mget m k = none) : mset m k v = m ++ [(k, v)] := by
  induction m with
  | nil => rfl
  | cons p r ih =>
    obtain ⟨a, u⟩ := p
    by_cases hk : k = a
    · simp [mget, hk] at h
    · simp only [mget, if_neg hk] at h
      simp [mset, hk, ih h]
theorem erase_eq (k : Int) : ∀ (es : List MapEntry) (m : IMap) (j i : Nat) (u : Value), es.map ekv = m.map kv → mfind m k j = some (i, u) →
    ∃ i', i = j + i' ∧ i' < es.length ∧ (es.eraseIdx i').map ekv = (mdel m k).map kv
  | [], m, j, i, u, h, hf => by
    cases m with
    | nil => simp [mfind] at hf
    | cons p r => simp at h
  | e :: es, m, j, i, u, h, hf => by
    cases m with
    | nil => simp at h
    | cons p r =>
      obtain ⟨a, u'⟩ := p
      simp only [List.map_cons, List.cons.injEq] at h
      obtain ⟨h1, h2⟩ := h
      by_cases hka : k = a
      · subst hka
        simp only [mfind, if_true, Option.some.injEq, Prod.mk.injEq] at hf
        exact ⟨0, by omega, by simp, by simp [mdel, h2]⟩
      · simp only [mfind, if_neg hka] at hf
        obtain ⟨i', hi, hl, hm⟩ := erase_eq k es r (j + 1) i u h2 hf
        exact ⟨i' + 1, by omega, by simp; exact hl, by simp only [List.eraseIdx_cons_succ, List.map_cons, hm, mdel, if_neg hka, h1]⟩
theorem mdel_not {m : IMap} {k : Int} (h : mget m k = none) : mdel m k = m := by
  induction m with
  | nil => rfl
  | cons p r ih =>
    obtain ⟨a, u⟩ := p
    by_cases hk : k = a
    · simp [mget, hk] at h
    · simp only [mget, if_neg hk] at h
      simp [mdel, hk, ih h]
theorem mdel_sub {m : IMap} {k : Int} : (mdel m k).Sublist m := by
  induction m with
  | nil => exact .slnil
  | cons p r ih =>
    obtain ⟨a, u⟩ := p
    by_cases hk : k = a
    · simp only [mdel, if_pos hk]; exact List.sublist_cons_self _ _
    · simp only [mdel, if_neg hk]; exact ih.cons_cons _
theorem mget_mdel {m : IMap} (hn : (m.map (·.1)).Nodup) (k j : Int) : mget (mdel m k) j = if j = k then none else mget m j := by
  induction m with
  | nil => simp [mdel, mget]
  | cons p r ih =>
    obtain ⟨a, u⟩ := p
    simp only [List.map_cons, List.nodup_cons] at hn
    by_cases hk : k = a
    · subst hk
      simp only [mdel, if_pos]
      by_cases hj : j = k
      · subst hj; simp [mget_none.2 hn.1]
      · simp [mget, hj]
    · simp only [mdel, if_neg hk, mget, ih hn.2]
      by_cases hj : j = a
      · subst hj; have : ¬ j = k := fun e => hk e.symm; simp [this]
      · simp [hj]

theorem MapAt.keep {w w' : World} {M : Nat → Prop} {r : Nat} {m : IMap} (h : MapAt w r m) (c : Chg M w w') (hn : ¬ M r) : MapAt w' r m :=
  let ⟨es, cl, h1, h2⟩ := h
  ⟨es, cl, h1.keep c hn, h2⟩
theorem MapAt.lt {w : World} {r : Nat} {m : IMap} (h : MapAt w r m) : r < w.heap.size := let ⟨_, _, h1, _⟩ := h; h1.lt
theorem MapAt.nodup {w : World} {r : Nat} {m : IMap} (h : MapAt w r m) : (m.map (·.1)).Nodup := let ⟨_, _, _, h2⟩ := h; h2.keys
theorem MapAt.made {w : World} {r : Nat} (h : At w r (.map #[] 0)) : MapAt w r [] := ⟨#[], 0, h, ⟨rfl, by simp, by simp, by simp⟩⟩

/-- Going through a map that stands still: which entries are left. -/
def IterAt (w : World) (it r : Nat) (m left : IMap) : Prop :=
  it ≠ r ∧ ∃ es clock seen, At w r (.map es clock) ∧ Fitm es clock m ∧ At w it (.mapIter (some r) clock seen clock) ∧
    (es.toList.filter fun e => !seen.contains e.born).map ekv = left.map kv

theorem IterAt.keep {w w' : World} {M : Nat → Prop} {it r : Nat} {m left : IMap} (h : IterAt w it r m left) (c : Chg M w w') (h1 : ¬ M it) (h2 : ¬ M r) : IterAt w' it r m left := by
  obtain ⟨hne, es, cl, seen, a, b, d, e⟩ := h
  exact ⟨hne, es, cl, seen, a.keep c h2, b, d.keep c h1, e⟩
/-- The entry at which an iterator stands. -/
def LastAt (w : World) (it r : Nat) (k : Int) (v : Value) : Prop :=
  ∃ es clock seen, At w r (.map es clock) ∧ At w it (.mapIter (some r) clock seen clock) ∧ ∃ e b, es.find? (fun e => e.born == b) = some e ∧ seen.back? = some b ∧ ekv e = (.int .i64 k, v)
theorem LastAt.keep {w w' : World} {M : Nat → Prop} {it r : Nat} {k : Int} {v : Value} (h : LastAt w it r k v) (c : Chg M w w') (h1 : ¬ M it) (h2 : ¬ M r) : LastAt w' it r k v := by
  obtain ⟨es, cl, seen, a, b, d⟩ := h
  exact ⟨es, cl, seen, a.keep c h2, b.keep c h1, d⟩
theorem find_born {es : List MapEntry} {e : MapEntry} (hn : (es.map (·.born)).Nodup) (he : e ∈ es) : es.find? (fun x => x.born == e.born) = some e := by
  induction es with
  | nil => cases he
  | cons a l ih =>
    simp only [List.map_cons, List.nodup_cons] at hn
    rcases List.mem_cons.1 he with h | h
    · subst h; simp
    · have hne : a.born ≠ e.born := fun e' => hn.1 (e' ▸ List.mem_map_of_mem (f := (·.born)) h)
      rw [List.find?_cons_of_neg (by simpa using hne)]
      exact ih hn.2 h
theorem IterAt.map {w : World} {it r : Nat} {m left : IMap} (h : IterAt w it r m left) : MapAt w r m := by
  obtain ⟨_, es, cl, seen, a, b, d, e⟩ := h
  exact ⟨es, cl, a, b⟩

def unkv : Value × Value → Int × Value
  | (.int _ k, v) => (k, v)
  | (_, v) => (0, v)
theorem map_unkv (m : IMap) : (m.map kv).map unkv = m := by
  rw [List.map_map]
  conv => rhs; rw [← List.map_id m]
  apply List.map_congr_left
  intro p _; rfl

theorem IterAt.sub {w : World} {it r : Nat} {m left : IMap} (h : IterAt w it r m left) : left.Sublist m := by
  obtain ⟨_, es, cl, seen, a, b, d, e⟩ := h
  have h1 : (left.map kv).Sublist (m.map kv) := by
    rw [← e, ← b.eq]; exact (List.filter_sublist).map _
  have h2 := h1.map unkv
  rwa [map_unkv, map_unkv] at h2
theorem IterAt.nodup {w : World} {it r : Nat} {m left : IMap} (h : IterAt w it r m left) : (left.map (·.1)).Nodup := h.map.nodup.sublist (h.sub.map _)

section
variable {P : Program} {n : Nat} {Q : Exit → Fr → World → Prop} {f : Fr} {w : World} {ops : Array Oper} {i : Nat} {KK : Fr → World → Prop} {S : World → Prop} {kk : Nat} {listed : Array Bool} {K : Value → World → Prop} {ds : Option Nat}

theorem run_getObj {r : Nat} {es : Array MapEntry} {clock : Nat} (h : At w r (.map es clock)) : (getObj r).run P w = .ok (.map es clock) w := by
  unfold At at h; simp [getObj, Sem.run, h]
theorem run_setObj {r : Nat} {o o' : Obj} (h : At w r o) (hn : ∀ cs t z, o ≠ .cells cs t z) : (setObj r o').run P w = .ok () (World.put w r o') := by
  unfold At at h
  cases o <;> first | (simp [setObj, Sem.run, h, World.put]; done) | exact absurd rfl (hn _ _ _)
theorem run_findKey {t : TypeId} {kd : IntKind} (ht : P.underlying t = some (.int kd)) {es : Array MapEntry} {m : IMap} (he : es.toList.map ekv = m.map kv) (k : Int) : (Instr.findKey t (.int .i64 k) es.toList).run P w = .ok (mfind m k 0) w := by
  simp [Instr.findKey, run_underlying ht, findNow_eq kd k es.toList m 0 he]
theorem run_checkKey {t : TypeId} {kd : IntKind} (ht : P.underlying t = some (.int kd)) (b : Bool) (k : Int) : (Instr.checkKey b 10000 t (.int .i64 k)).run P w = .ok () w := by
  have key : ∀ d, (Instr.checkKey b (d + 1) t (.int .i64 k)).run P w = .ok () w := by intro d; simp [Instr.checkKey, run_underlying ht]
  exact key 9999

theorem run_lookup {t kt et : TypeId} {kd : IntKind} {z : Value} (ht : P.underlying t = some (.map kt et)) (hk : P.underlying kt = some (.int kd)) (hz : ∀ w, (zeroValue et).run P w = .ok z w)
    {r : Nat} {m : IMap} (hm : MapAt w r m) (k : Int) (ok : Bool) : (Instr.lookup t (.map (some r)) (.int .i64 k) ok).run P w = .ok (if ok then .tuple #[(mget m k).getD z, .bool (mget m k).isSome] else (mget m k).getD z) w := by
  obtain ⟨es, clock, hA, hF⟩ := hm
  have hg := mfind_get m k 0
  simp only [Instr.lookup, Sem.run_bind, run_underlying ht, Result.andThen_ok, run_getObj hA, run_checkKey hk, run_findKey hk hF.eq, Sem.run_pure]
  cases hf : mfind m k 0 with
  | none => rw [hf] at hg; simp only [Option.map_none] at hg; rw [← hg]; simp only [Sem.run_bind, hz, Result.andThen_ok, Sem.run_pure]; rfl
  | some p => rw [hf] at hg; simp only [Option.map_some] at hg; rw [← hg]; simp only [Sem.run_pure, Result.andThen_ok]; rfl

theorem o_lk {d : Nat} {ty : TypeId} {pos : String} {aft : Array Edge} {gd : Option (Nat × Bool)} {x y : Operand} {t kt et : TypeId} {kd : IntKind} {z : Value} {r : Nat} {m : IMap} {k : Int} (v : Option Value)
    (ho : ops.toList[i]? = some ⟨some d, .lookup t x y false, ty, pos, aft, gd⟩) (hw : wantedX ops n f gd = true) (hd : Nat.blt d n = true)
    (ht : P.underlying t = some (.map kt et)) (hk : P.underlying kt = some (.int kd)) (hz : ∀ w, (zeroValue et).run P w = .ok z w)
    (hx : ev f x = .map (some r)) (hy : ev f y = .int .i64 k) (hm : MapAt w r m) (hv : mget m k = v) (h : XO P n ops Q (i + 1) (up f d (v.getD z)) w) : XO P n ops Q i f w := by
  subst hv
  refine XO_val ho hw rfl hd ?_ h
  simp only [execOp, hx, hy, Sem.run_bind, run_lookup ht hk hz hm, Result.andThen_ok, Sem.run_pure]; rfl
theorem q_lk {d : Nat} {ty : TypeId} {pos : String} {aft : Array Edge} {gd : Option (Nat × Bool)} {x y : Operand} {t kt et : TypeId} {kd : IntKind} {z : Value} {r : Nat} {m : IMap} {k : Int} (v : Option Value)
    (ho : ops.toList[i]? = some ⟨some d, .lookup t x y false, ty, pos, aft, gd⟩) (hw : wantedX ops n f gd = true) (hd : Nat.blt d n = true) (hok : takeOk ops listed i = true)
    (ht : P.underlying t = some (.map kt et)) (hk : P.underlying kt = some (.int kd)) (hz : ∀ w, (zeroValue et).run P w = .ok z w)
    (hx : ev f x = .map (some r)) (hy : ev f y = .int .i64 k) (hm : ∀ w, S w → MapAt w r m) (hv : mget m k = v) (h : S w → XH P n ops KK S kk (listed.setIfInBounds i true) (up f d (v.getD z)) w) (hSw : S w) : XH P n ops KK S (kk + 1) listed f w := by
  subst hv
  refine XH_take ho hw rfl hd hok (fun w hS => ?_) h hSw
  simp only [execOp, hx, hy, Sem.run_bind, run_lookup ht hk hz (hm w hS), Result.andThen_ok, Sem.run_pure]; rfl

theorem o_lkok {d : Nat} {ty : TypeId} {pos : String} {aft : Array Edge} {gd : Option (Nat × Bool)} {x y : Operand} {t kt et : TypeId} {kd : IntKind} {z : Value} {r : Nat} {m : IMap} {k : Int} (v : Option Value)
    (ho : ops.toList[i]? = some ⟨some d, .lookup t x y true, ty, pos, aft, gd⟩) (hw : wantedX ops n f gd = true) (hd : Nat.blt d n = true)
    (ht : P.underlying t = some (.map kt et)) (hk : P.underlying kt = some (.int kd)) (hz : ∀ w, (zeroValue et).run P w = .ok z w)
    (hx : ev f x = .map (some r)) (hy : ev f y = .int .i64 k) (hm : MapAt w r m) (hv : mget m k = v) (h : XO P n ops Q (i + 1) (up f d (.tuple #[v.getD z, .bool v.isSome])) w) : XO P n ops Q i f w := by
  subst hv
  refine XO_val ho hw rfl hd ?_ h
  simp only [execOp, hx, hy, Sem.run_bind, run_lookup ht hk hz hm, Result.andThen_ok, Sem.run_pure]; rfl

theorem q_lkok {d : Nat} {ty : TypeId} {pos : String} {aft : Array Edge} {gd : Option (Nat × Bool)} {x y : Operand} {t kt et : TypeId} {kd : IntKind} {z : Value} {r : Nat} {m : IMap} {k : Int} (v : Option Value)
    (ho : ops.toList[i]? = some ⟨some d, .lookup t x y true, ty, pos, aft, gd⟩) (hw : wantedX ops n f gd = true) (hd : Nat.blt d n = true) (hok : takeOk ops listed i = true)
    (ht : P.underlying t = some (.map kt et)) (hk : P.underlying kt = some (.int kd)) (hz : ∀ w, (zeroValue et).run P w = .ok z w)
    (hx : ev f x = .map (some r)) (hy : ev f y = .int .i64 k) (hm : ∀ w, S w → MapAt w r m) (hv : mget m k = v) (h : S w → XH P n ops KK S kk (listed.setIfInBounds i true) (up f d (.tuple #[v.getD z, .bool v.isSome])) w) (hSw : S w) : XH P n ops KK S (kk + 1) listed f w := by
  subst hv
  refine XH_take ho hw rfl hd hok (fun w hS => ?_) h hSw
  simp only [execOp, hx, hy, Sem.run_bind, run_lookup ht hk hz (hm w hS), Result.andThen_ok, Sem.run_pure]; rfl

theorem run_mapUpdate {t kt et : TypeId} {kd : IntKind} (ht : P.underlying t = some (.map kt et)) (hk : P.underlying kt = some (.int kd))
    {r : Nat} {m : IMap} (hm : MapAt w r m) (k : Int) (v : Value) : ∃ o, (Instr.mapUpdate t (.map (some r)) (.int .i64 k) v).run P w = .ok () (World.put w r o) ∧ MapAt (World.put w r o) r (mset m k v) := by
  obtain ⟨es, clock, hA, hF⟩ := hm
  have hrun : (Instr.mapUpdate t (.map (some r)) (.int .i64 k) v).run P w = (match mfind m k 0 with
      | some (i, _) => do let key ← Instr.keyThatStays (((es[i]?).map (·.key)).getD (.int .i64 k)) (.int .i64 k); setObj r (.map (es.modify i fun e => { e with key, val := v }) clock)
      | none => setObj r (.map (es.push { key := .int .i64 k, val := v, born := clock }) (clock + 1)) : Sem Unit).run P w := by
    simp only [Instr.mapUpdate, Sem.run_bind, run_underlying ht, Result.andThen_ok, run_getObj hA, run_checkKey hk, run_findKey hk hF.eq]
    cases mfind m k 0 <;> rfl
  have hg := mfind_get m k 0
  cases hf : mfind m k 0 with
  | none =>
    rw [hf] at hrun hg
    refine ⟨.map (es.push { key := .int .i64 k, val := v, born := clock }) (clock + 1), ?_, ?_⟩
    · rw [hrun]; exact run_setObj hA (by intros; simp)
    · refine ⟨_, _, hA.put, ⟨?_, nodup_mset hF.keys, ?_, ?_⟩⟩
      · rw [mset_new v (by rw [← hg]; rfl)]; simp [hF.eq, ekv, kv]
      · simp only [Array.toList_push, List.map_append, List.map_cons, List.map_nil]
        rw [List.nodup_append]
        refine ⟨hF.borns, by simp, ?_⟩
        intro a ha b hb
        simp only [List.mem_singleton] at hb
        subst hb
        obtain ⟨e, he, rfl⟩ := List.mem_map.1 ha
        have := hF.old e he
        omega
      · intro e he
        simp only [Array.toList_push, List.mem_append, List.mem_singleton] at he
        rcases he with he | rfl
        · have := hF.old e he; omega
        · simp
  | some p =>
    obtain ⟨i, u⟩ := p
    rw [hf] at hrun
    obtain ⟨i', hi, hl, hkk, hmap⟩ := modify_eq k v es.toList m 0 i u hF.eq hf
    have hi : i = i' := by omega
    subst hi
    have hold : ((es[i]?).map (·.key)).getD (.int .i64 k) = .int .i64 k := by
      have : es[i]? = es.toList[i]? := by simp
      rw [this, hkk]; rfl
    have hstay : (Instr.keyThatStays (.int .i64 k) (.int .i64 k)).run P w = .ok (.int .i64 k) w := by
      have hb : ∀ d, Instr.sameBits (d + 1) (.int .i64 k) (.int .i64 k) = true := by intro d; simp [Instr.sameBits]
      unfold Instr.keyThatStays
      rw [show Instr.sameBits 10000 (.int .i64 k) (.int .i64 k) = true from hb 9999]
      rfl
    refine ⟨.map (es.modify i fun e => { e with key := .int .i64 k, val := v }) clock, ?_, ?_⟩
    · rw [hrun]
      simp only [hold, Sem.run_bind, hstay, Result.andThen_ok]
      exact run_setObj hA (by intros; simp)
    · have hb : (es.toList.modify i fun e => { e with key := Value.int .i64 k, val := v }).map (·.born) = es.toList.map (·.born) := by
        apply List.ext_getElem?
        intro j
        simp only [List.getElem?_map, List.getElem?_modify]
        by_cases hj : i = j
        · subst hj; cases es.toList[i]? <;> simp
        · simp [hj]
      refine ⟨_, _, hA.put, ⟨by simpa using hmap, nodup_mset hF.keys, ?_, ?_⟩⟩
      · rw [Array.toList_modify, hb]; exact hF.borns
      · intro e he
        rw [Array.toList_modify] at he
        have hmem : e.born ∈ es.toList.map (·.born) := by rw [← hb]; exact List.mem_map_of_mem (f := (·.born)) he
        obtain ⟨e', he', heq⟩ := List.mem_map.1 hmem
        have := hF.old e' he'
        omega

theorem m_mup {ty : TypeId} {pos : String} {aft : Array Edge} {gd : Option (Nat × Bool)} {x y z : Operand} {t kt et : TypeId} {kd : IntKind} {r : Nat} {m : IMap} {k : Int} (v : Value)
    
    (ht : P.underlying t = some (.map kt et)) (hk : P.underlying kt = some (.int kd))
    (hx : ev f x = .map (some r)) (hy : ev f y = .int .i64 k) (hz : ev f z = v) (hm : MapAt w r m)
    (h : ∀ w', Chg (fun k => k = r) w w' → w'.heap.size = w.heap.size → MapAt w' r (mset m k v) → K undef w') : StepV P f ⟨ds, .mapUpdate t x y z, ty, pos, aft, gd⟩ w K := by
  obtain ⟨o, hr, hm'⟩ := run_mapUpdate (P := P) ht hk hm k v
  refine StepV.skip (w' := World.put w r o) ?_ (h _ (Chg.put w r o rfl) (by simp [World.put]) hm')
  simp only [execOp, hx, hy, hz, Sem.run_bind, hr, Result.andThen_ok, Sem.run_pure]

theorem m_clear {ty : TypeId} {pos : String} {aft : Array Edge} {gd : Option (Nat × Bool)} {x : Operand} {t kt et : TypeId} {r : Nat} {m : IMap}
    
    (ht : P.underlying t = some (.map kt et)) (hx : ev f x = .map (some r)) (hm : MapAt w r m)
    (h : ∀ w', Chg (fun k => k = r) w w' → w'.heap.size = w.heap.size → MapAt w' r [] → K (.tuple #[]) w') : StepV P f ⟨ds, .call ⟨.builtin .clear, #[x], #[t]⟩, ty, pos, aft, gd⟩ w K := by
  obtain ⟨es, clock, hA, hF⟩ := hm
  refine StepV.value (w' := World.put w r (.map #[] clock)) ?_ (h _ (Chg.put w r _ rfl) (by simp [World.put]) ⟨#[], clock, hA.put, ⟨rfl, by simp, by simp, by simp⟩⟩)
  have hs := run_setObj (P := P) (o' := .map #[] clock) hA (by intros; simp)
  simp [execOp, hx, resolve, invoke, builtin, Builtin.clear_, run_underlying ht, run_getObj hA, hs]
theorem o_lenM {d : Nat} {ty : TypeId} {pos : String} {aft : Array Edge} {gd : Option (Nat × Bool)} {x : Operand} {t kt et : TypeId} {r : Nat} {m : IMap}
    (ho : ops.toList[i]? = some ⟨some d, .call ⟨.builtin .len, #[x], #[t]⟩, ty, pos, aft, gd⟩) (hw : wantedX ops n f gd = true) (hd : Nat.blt d n = true)
    (ht : P.underlying t = some (.map kt et)) (hx : ev f x = .map (some r)) (hm : MapAt w r m) (h : XO P n ops Q (i + 1) (up f d (.int .i64 (m.length : Int))) w) : XO P n ops Q i f w := by
  obtain ⟨es, clock, hA, hF⟩ := hm
  have hl : es.size = m.length := by have := congrArg List.length hF.eq; simpa using this
  rw [← hl] at h
  exact o_lenm ho hw hd ht hx hA h

/-! ## Going through a map -/

theorem m_rng {ty : TypeId} {pos : String} {aft : Array Edge} {gd : Option (Nat × Bool)} {x : Operand} {t kt et : TypeId} {r : Nat} {m : IMap}
    
    (ht : P.underlying t = some (.map kt et)) (hx : ev f x = .map (some r)) (hm : MapAt w r m)
    (h : ∀ w', Chg No w w' → w'.heap.size = w.heap.size + 1 → IterAt w' w.heap.size r m m → K (.pointer (some ⟨w.heap.size, 0, none⟩)) w') : StepV P f ⟨ds, .range t x, ty, pos, aft, gd⟩ w K := by
  obtain ⟨es, clock, hA, hF⟩ := hm
  have hne : w.heap.size ≠ r := by have := hA.lt; omega
  refine StepV.value (w' := w.alloc (.mapIter (some r) clock #[] clock)) ?_ (h _ (Chg.alloc _ w _) (by simp) ⟨hne, es, clock, #[], hA.keep (Chg.alloc No w _) (fun h => h), hF, At.alloc w _, ?_⟩)
  · simp [execOp, hx, Instr.range, run_underlying ht, run_getObj hA]
  · rw [show (es.toList.filter fun e => !(#[] : Array Nat).contains e.born) = es.toList from by rw [List.filter_eq_self]; intro a _; simp]
    exact hF.eq

theorem filter_filter_ne {es : List MapEntry} {seen : Array Nat} {b : Nat} : es.filter (fun e => !(seen.push b).contains e.born) = (es.filter fun e => !seen.contains e.born).filter fun e => e.born != b := by
  rw [List.filter_filter]
  congr 1
  funext e
  simp only [Array.contains_push, Bool.not_or]
  rw [Bool.and_comm]
  congr 1
theorem split_at_born : ∀ {l : List MapEntry} {e : MapEntry}, (l.map (·.born)).Nodup → e ∈ l → l.Perm (e :: l.filter fun x => x.born != e.born)
  | [], e, _, h => by cases h
  | a :: l, e, hn, h => by
    simp only [List.map_cons, List.nodup_cons] at hn
    by_cases hb : a.born = e.born
    · have hae : a = e := by
        rcases List.mem_cons.1 h with h | h
        · exact h.symm
        · exact absurd (hb ▸ List.mem_map_of_mem (f := (·.born)) h) hn.1
      subst hae
      rw [List.filter_cons_of_neg (by simp)]
      rw [List.filter_eq_self.2]
      · intro x hx
        simp only [bne_iff_ne, ne_eq]
        intro e
        exact hn.1 (e ▸ List.mem_map_of_mem (f := (·.born)) hx)
    · have hm : e ∈ l := by
        rcases List.mem_cons.1 h with h | h
        · exact absurd (by rw [h]) hb
        · exact h
      rw [List.filter_cons_of_pos (by simpa using hb)]
      exact ((split_at_born hn.2 hm).cons a).trans (List.Perm.swap _ _ _)

theorem m_next {ty : TypeId} {pos : String} {aft : Array Edge} {gd : Option (Nat × Bool)} {x : Operand} {it r : Nat} {m left : IMap}
    
    (hx : ev f x = .pointer (some ⟨it, 0, none⟩)) (hI : IterAt w it r m left)
    (h0 : left = [] → K (.tuple #[.bool false]) w)
    (h1 : ∀ k v rest w', left.Perm ((k, v) :: rest) → Chg (fun j => j = it) w w' → w'.heap.size = w.heap.size → IterAt w' it r m rest → LastAt w' it r k v → K (.tuple #[.bool true, .int .i64 k, v]) w') : StepV P f ⟨ds, .next x false, ty, pos, aft, gd⟩ w K := by
  obtain ⟨hne, es, clock, seen, hA, hF, hit, hleft⟩ := hI
  have hgi : (getObj it).run P w = .ok (.mapIter (some r) clock seen clock) w := by unfold At at hit; simp [getObj, Sem.run, hit]
  have hall : (!seen.isEmpty && !es.isEmpty && es.all (·.born ≥ clock)) = false := by
    by_cases he : es.isEmpty = true
    · simp [he]
    · have hne : 0 < es.size := by simp at he; exact Nat.pos_of_ne_zero (by simpa using he)
      have hx := hF.old es[0] (by simp)
      have : es.all (·.born ≥ clock) = false := by
        rw [Array.all_eq_false]
        exact ⟨0, hne, by simp; omega⟩
      simp [this]
  have hold : ∀ l : List MapEntry, (∀ e ∈ l, e.born < clock) → l.filter (fun e => decide (e.born < clock)) = l := fun l hl => List.filter_eq_self.2 fun a ha => by simpa using hl a ha
  have hnew : ∀ l : List MapEntry, (∀ e ∈ l, e.born < clock) → l.filter (fun e => decide (e.born ≥ clock)) = [] := fun l hl => List.filter_eq_nil_iff.2 fun a ha => by have := hl a ha; simp; omega
  have hlb : ∀ e ∈ es.toList.filter (fun e => !seen.contains e.born), e.born < clock := fun e he => hF.old e (List.mem_filter.1 he).1
  -- what is left, as the model writes it
  obtain ⟨L, hL⟩ : ∃ L, L = es.toList.filter fun e => !seen.contains e.born := ⟨_, rfl⟩
  rw [← hL] at hleft hlb
  have hfl : (es.filter fun e => !seen.contains e.born) = L.toArray := by rw [hL]; apply Array.ext'; simp
  have hrun : (Instr.next (.pointer (some ⟨it, 0, none⟩)) false ty).run P w = (do
      match ((if L.toArray.isEmpty then #[none] else #[]) ++ (L.toArray).map some : Array (Option MapEntry))[← choose (.mapNext ((if L.toArray.isEmpty then #[none] else #[]) ++ (L.toArray).map some : Array (Option MapEntry)).size)]? with
      | some (some e) =>
        setObj it (.mapIter (some r) clock (seen.push e.born) clock)
        pure (.tuple #[.bool true, e.key, e.val])
      | some none => pure (.tuple #[.bool false])
      | none => stuck "Next: no such candidate" : Sem Value).run P w := by
    have ho' : (L.toArray.filter fun e => decide (e.born < clock)) = L.toArray := by apply Array.ext'; simp [hold L hlb]
    have hn' : (L.toArray.filter fun e => decide (e.born ≥ clock)) = #[] := by apply Array.ext'; simp [hnew L hlb]
    simp only [Instr.next, Sem.run_bind, hgi, Result.andThen_ok, run_getObj hA, hall, Bool.false_eq_true, if_false, hfl, ho', hn', Array.append_empty, Sem.run_pure, pure_bind]
    rfl
  cases hL0 : L with
  | nil =>
    have hl : left = [] := by rw [hL0] at hleft; simpa using hleft.symm
    refine StepV.value (w' := w) ?_ (h0 hl)
    simp only [execOp, hx, Sem.run_bind]
    rw [hrun, hL0]
    simp [Question.forced]
  | cons e0 L0 =>
    have hpos : 0 < L.length := by rw [hL0]; simp
    obtain ⟨j, wj, hj, hch, hwj, hcj⟩ : ∃ j wj, j < L.length ∧ (choose (.mapNext L.length)).run P w = .ok j wj ∧ wj.heap = w.heap ∧ Chg No w wj := by
      rw [run_choose]
      by_cases hfc : (Question.mapNext L.length).forced = true
      · rw [if_pos hfc]; exact ⟨0, w, hpos, rfl, rfl, Chg.refl _ _⟩
      · rw [if_neg hfc]
        exact ⟨_, _, Nat.mod_lt _ hpos, rfl, rfl, Chg.drew No w⟩
    have hLne : L.toArray.isEmpty = false := by rw [hL0]; simp
    obtain ⟨e, he⟩ : ∃ e, e = L[j] := ⟨_, rfl⟩
    have hmem : e ∈ L := by rw [he]; exact List.getElem_mem hj
    have hmem' : e ∈ es.toList := by rw [hL] at hmem; exact (List.mem_filter.1 hmem).1
    have hk : ∃ k, e.key = .int .i64 k := by
      have h1 : ekv e ∈ es.toList.map ekv := List.mem_map_of_mem (f := ekv) hmem'
      rw [hF.eq] at h1
      obtain ⟨p, _, hp⟩ := List.mem_map.1 h1
      exact ⟨p.1, (congrArg Prod.fst hp).symm⟩
    obtain ⟨k, hk⟩ := hk
    have hit' : At wj it (.mapIter (some r) clock seen clock) := by unfold At; rw [hwj]; exact hit
    have hA' : At wj r (.map es clock) := by unfold At; rw [hwj]; exact hA
    have hLb : (L.map (·.born)).Nodup := by rw [hL]; exact hF.borns.sublist (List.filter_sublist.map _)
    have hperm := split_at_born hLb hmem
    have hset := run_setObj (P := P) (o' := .mapIter (some r) clock (seen.push e.born) clock) hit' (by intros; simp)
    -- the entries that are left behind this one
    have hkey : ∀ x ∈ L, ∃ p : Int × Value, ekv x = kv p := by
      intro x hx
      have h1 : ekv x ∈ L.map ekv := List.mem_map_of_mem (f := ekv) hx
      rw [hleft] at h1
      obtain ⟨p, _, hp⟩ := List.mem_map.1 h1
      exact ⟨p, hp.symm⟩
    have hex : ∀ l : List MapEntry, (∀ x ∈ l, ∃ p : Int × Value, ekv x = kv p) → ∃ r : IMap, l.map ekv = r.map kv := by
      intro l
      induction l with
      | nil => intro _; exact ⟨[], rfl⟩
      | cons x l ih =>
        intro hx
        obtain ⟨p, hp⟩ := hx x (by simp)
        obtain ⟨r, hr⟩ := ih fun y hy => hx y (by simp [hy])
        exact ⟨p :: r, by simp [hp, hr]⟩
    obtain ⟨rest, hrest⟩ := hex (L.filter fun x => x.born != e.born) fun x hx => hkey x (List.mem_filter.1 hx).1
    have hpl : left.Perm ((k, e.val) :: rest) := by
      have h1 := hperm.map ekv
      rw [List.map_cons, hleft, hrest] at h1
      have h2 : ekv e = kv (k, e.val) := by simp [ekv, kv, hk]
      rw [h2, ← List.map_cons] at h1
      have h3 := h1.map unkv
      rwa [map_unkv, map_unkv] at h3
    refine StepV.value (w' := World.put wj it (.mapIter (some r) clock (seen.push e.born) clock)) ?_ (h1 k e.val rest _ hpl ?_ (by simp [World.put, hwj]) ⟨hne, es, clock, seen.push e.born, ?_, hF, hit'.put, ?_⟩ ⟨es, clock, seen.push e.born, hA'.keep (Chg.put (M := fun j => j = it) wj it _ rfl) (fun e => hne e.symm), hit'.put, e, e.born, ?_, by simp, by simp [ekv, hk]⟩)
    · simp only [execOp, hx, Sem.run_bind]
      rw [hrun]
      simp only [hLne, Bool.false_eq_true, if_false, Array.empty_append, Array.size_map, List.size_toArray, Sem.run_bind, hch, Result.andThen_ok]
      have hg : ((L.toArray).map some : Array (Option MapEntry))[j]? = some (some e) := by simp [hj, he]
      simp only [hg, Sem.run_bind, hset, Result.andThen_ok, Sem.run_pure, hk]
    · exact hcj.then (Chg.put (M := fun j => j = it) wj it _ rfl) (fun _ _ h => h.elim) (fun _ _ h => h)
    · exact hA'.keep (Chg.put (M := fun j => j = it) wj it _ rfl) (fun e => hne e.symm)
    · rw [filter_filter_ne, ← hL]; exact hrest
    · rw [← Array.find?_toList]; exact find_born hF.borns hmem'

theorem run_entry {it r : Nat} {k : Int} {v : Value} (hL : LastAt w it r k v) : (Instr.entry (.pointer (some ⟨it, 0, none⟩))).run P w = .ok (.tuple #[.int .i64 k, v]) w := by
  obtain ⟨es, clock, seen, hA, hit, e, b, hf, hb, hkv⟩ := hL
  have hgi : (getObj it).run P w = .ok (.mapIter (some r) clock seen clock) w := by unfold At at hit; simp [getObj, Sem.run, hit]
  have h1 : e.key = .int .i64 k := congrArg Prod.fst hkv
  have h2 : e.val = v := congrArg Prod.snd hkv
  simp [Instr.entry, hgi, run_getObj hA, hb, hf, h1, h2]
theorem o_entry {d : Nat} {ty : TypeId} {pos : String} {aft : Array Edge} {gd : Option (Nat × Bool)} {x : Operand} {it r : Nat} {k : Int} {v : Value}
    (ho : ops.toList[i]? = some ⟨some d, .entry x, ty, pos, aft, gd⟩) (hw : wantedX ops n f gd = true) (hd : Nat.blt d n = true)
    (hx : ev f x = .pointer (some ⟨it, 0, none⟩)) (hL : LastAt w it r k v) (h : XO P n ops Q (i + 1) (up f d (.tuple #[.int .i64 k, v])) w) : XO P n ops Q i f w := by
  refine XO_val ho hw rfl hd ?_ h
  simp only [execOp, hx, Sem.run_bind, run_entry hL, Result.andThen_ok, Sem.run_pure]
end
end Go.Proofs.Ytijjnlfmlcbfpaa

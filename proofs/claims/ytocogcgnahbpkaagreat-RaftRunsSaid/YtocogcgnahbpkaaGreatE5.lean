/-
  A part of the proof of what E53 says at its head.
-/
import Derived.Laws.Tables
import Derived.Test.YtocogcgnahbpkaaGreatE4
namespace Go.SL
open Go.RowKit
def cellsOf : Value → Option (List Value)
  | .agg a => some a.toList
  | .tuple _ => none
  | v => some [v]
def lenIs : List Value → Nat → Bool
  | [], 0 => true
  | _ :: l, n + 1 => lenIs l n
  | _, _ => false
def parts (e : Env) (fs : List (Nat × Nat × Nat)) : List (Nat × Operand) → List Value → Option (List Value)
  | [], cs => some cs
  | (i, x) :: r, cs => match ev e x with
    | none => none
    | some v => match cellsOf v with
      | none => none
      | some vs => match fs[i]? with
        | none => none
        | some (off, _, sz) => bif (bif Nat.beq sz 0 then false else lenIs vs sz) then (match putL cs off vs with
          | none => none
          | some cs' => parts e fs r cs') else none
theorem lenIs_eq : ∀ {l : List Value} {n : Nat}, lenIs l n = true → l.length = n
  | [], 0, _ => rfl
  | [], _ + 1, h => nomatch h
  | _ :: l, 0, h => nomatch h
  | _ :: l, n + 1, h => by rw [List.length_cons, lenIs_eq (l := l) h]
theorem cellsOf_eq {v : Value} {vs : List Value} (h : cellsOf v = some vs) : v.cells = vs.toArray := by
  cases v <;> simp [cellsOf] at h <;> subst h <;> rfl
theorem foldl_set : ∀ (vs : List Value) (cs : Array Value) (off k : Nat), off + k + vs.length ≤ cs.size →
    ∀ j, ((vs.zipIdx k).foldl (fun cs (c, j) => cs.setIfInBounds (off + j) c) cs)[j]? = if off + k ≤ j ∧ j < off + k + vs.length then vs[j - (off + k)]? else cs[j]?
  | [], cs, off, k, _, j => by rw [if_neg (by simp only [List.length_nil]; omega)]; rfl
  | v :: vs, cs, off, k, h, j => by
    simp only [List.length_cons] at h
    rw [List.zipIdx_cons, List.foldl_cons, foldl_set vs _ off (k + 1) (by simp; omega) j]
    simp only [List.length_cons]
    by_cases hj : off + (k + 1) ≤ j ∧ j < off + (k + 1) + vs.length
    · rw [if_pos hj, if_pos (by omega), show j - (off + k) = (j - (off + (k + 1))) + 1 by omega, List.getElem?_cons_succ]
    · rw [if_neg hj, Array.getElem?_setIfInBounds]
      by_cases hj2 : off + k = j
      · subst hj2; rw [if_pos rfl, if_pos (by omega), if_pos (by omega), Nat.sub_self]; rfl
      · rw [if_neg hj2, if_neg (by omega)]
theorem fill_parts {n : Nat} {e : Env} {a : Act} (h1 : Ag n e a.tmps) {fs : List (Nat × Nat × Nat)} {place : Nat → Option (Nat × Nat)} (hpl : ∀ i off ft sz, fs[i]? = some (off, ft, sz) → place i = some (off, sz)) :
    ∀ {ps : List (Nat × Operand)} {cs cs' : List Value}, parts e fs ps cs = some cs' → Instr.fill place cs.toArray (ps.map fun x => (x.1, a.eval x.2)) = some cs'.toArray
  | [], cs, cs', h => by simp [parts] at h; subst h; rfl
  | (i, x) :: r, cs, cs', h => by
    unfold parts at h
    cases hx : ev e x with
    | none => simp only [hx] at h; cases h
    | some v =>
      simp only [hx] at h
      cases hv : cellsOf v with
      | none => simp only [hv] at h; cases h
      | some vs =>
        simp only [hv] at h
        cases hf : fs[i]? with
        | none => simp only [hf] at h; cases h
        | some q =>
          obtain ⟨off, ft, sz⟩ := q
          simp only [hf] at h
          cases hl0 : (bif Nat.beq sz 0 then false else lenIs vs sz) with
          | false => rw [hl0] at h; cases h
          | true =>
            rw [hl0] at h
            simp only [cond_true] at h
            have hz : Nat.beq sz 0 = false := by cases hb : Nat.beq sz 0 <;> simp [hb] at hl0 ⊢
            have hl : lenIs vs sz = true := by rw [hz] at hl0; exact hl0
            cases hp : putL cs off vs with
            | none => simp only [hp] at h; cases h
            | some cs2 =>
              simp only [hp] at h
              obtain ⟨p1, p2, p3⟩ := putL_eq hp
              have hsz := lenIs_eq hl
              rw [List.map_cons]
              unfold Instr.fill
              simp only [hpl i off ft sz hf, h1.eval hx, cellsOf_eq hv]
              have hfit : off + vs.length ≤ cs.length := by
                cases vs with
                | nil => rw [← hsz] at hz; cases hz
                | cons => simp only [List.length_cons] at p2 ⊢; omega
              have hfold : (vs.toArray.zipIdx.foldl (fun cs (c, j) => cs.setIfInBounds (off + j) c) cs.toArray) = cs2.toArray := by
                apply Array.ext_getElem?
                intro j
                rw [← Array.foldl_toList]
                simp only [Array.toList_zipIdx]
                rw [foldl_set vs cs.toArray off 0 (by simpa using hfit) j]
                simp only [Nat.add_zero, List.getElem?_toArray]
                rw [p3 j]
              rw [if_neg (by simp [hsz] at hfit ⊢; omega), hfold]
              exact fill_parts h1 hpl h
theorem fsOf_places {P : Program} : ∀ {fs : List Field} {l : List (Nat × Nat × Nat)}, fsOf P fs = some l → fs.mapM (fun f => (P.info? f.type).map fun i => (f.offset, i.size)) = some (l.map fun x => (x.1, x.2.2))
  | [], l, h => by injection h with h; subst h; rfl
  | f :: fs, l, h => by
    unfold fsOf at h
    cases hj : P.info? f.type with
    | none => simp only [hj] at h; cases h
    | some j =>
      cases hl : fsOf P fs with
      | none => simp only [hj, hl] at h; cases h
      | some l' =>
        simp only [hj, hl] at h
        injection h with h
        subst h
        simp [List.mapM_cons, hj, fsOf_places hl]
section
variable {P : Program} {n : Nat} {e : Env} {L S : List HP} {o : Oper} {v u : Value} {x y : Operand} {a b : Int} {k : IntKind} [Tab P]
theorem Q.build {t : Nat} {ps : Array (Nat × Operand)} {r : Row} {fs : List (Nat × Nat × Nat)} {cs : List Value} (ho : o.op = .build t ps) (ht : ty P t = some r) (hd : r.d = .strct fs) (hp : parts e fs ps.toList r.zero = some cs) : QOp P n e S o (.agg cs.toArray) := .val fun w a h1 _ => by
  obtain ⟨T⟩ := ty_is ht
  obtain ⟨F, hF, hm⟩ := dOf_strct (hd ▸ T.d)
  have hb : P.built t (ps.map fun (i, x) => (i, a.eval x)).toList = some cs.toArray := by
    unfold Program.built
    simp only [T.info, T.under, hF, T.zero, fsOf_places hm, T.cells]
    have := fill_parts h1 (place := fun i => (fs.map fun x => (x.1, x.2.2)).toArray[i]?) (fun i off ft sz h => by simp [h]) hp
    simpa using this
  unfold execOp; rw [ho]
  have := run_build (P := P) w t (ps.map fun (i, x) => (i, a.eval x)) cs.toArray hb
  simp [this]
theorem Q.lenS {t m c : Nat} {q : Option Addr} {r : Row} {ts : Array Nat} {d : Nat} (ho : o.op = .call ⟨.builtin .len, #[x], ts⟩) (hts : ts[0]? = some t) (ht : ty P t = some r) (hd : r.d = .slice d) (hx : ev e x = some (.slice q m c)) : QOp P n e S o (.int .i64 (m : Int)) := .val fun w a h1 _ => by
  obtain ⟨T⟩ := ty_is ht
  have hu : ∃ d', T.u = .slice d' := by have := T.d; rw [hd] at this; cases hT : T.u <;> simp [hT, dOf] at this; exact ⟨_, rfl⟩
  obtain ⟨d', hu⟩ := hu
  unfold execOp; rw [ho]
  simp [resolve, h1.eval hx, invoke, builtin, Builtin.len_, hts, T.run_under, hu, goInt]
theorem Q.lenStr {t : Nat} {s : ByteArray} {r : Row} {ts : Array Nat} (ho : o.op = .call ⟨.builtin .len, #[x], ts⟩) (hts : ts[0]? = some t) (ht : ty P t = some r) (hd : r.d = .str) (hx : ev e x = some (.string s)) : QOp P n e S o (.int .i64 (s.size : Int)) := .val fun w a h1 _ => by
  obtain ⟨T⟩ := ty_is ht
  have hu : T.u = .string := by have := T.d; rw [hd] at this; cases hT : T.u <;> simp [hT, dOf] at this; rfl
  unfold execOp; rw [ho]
  simp [resolve, h1.eval hx, invoke, builtin, Builtin.len_, hts, T.run_under, hu, goInt]
 omit [Tab P] in
theorem Q.min {ts : Array Nat} (ho : o.op = .call ⟨.builtin .min, #[x, y], ts⟩) (hx : ev e x = some (.int .i64 a)) (hy : ev e y = some (.int .i64 b)) : QOp P n e S o (.int .i64 (min a b)) := .val fun w a' h1 _ => by
  unfold execOp; rw [ho]
  have hm : (if b < a then b else a) = Min.min a b := by omega
  simp [resolve, h1.eval hx, h1.eval hy, invoke, builtin, Builtin.min_, Builtin.min2, hm]
 omit [Tab P] in
theorem Q.max {ts : Array Nat} (ho : o.op = .call ⟨.builtin .max, #[x, y], ts⟩) (hx : ev e x = some (.int .i64 a)) (hy : ev e y = some (.int .i64 b)) : QOp P n e S o (.int .i64 (max a b)) := .val fun w a' h1 _ => by
  unfold execOp; rw [ho]
  have hm : (if a < b then b else a) = Max.max a b := by omega
  simp [resolve, h1.eval hx, h1.eval hy, invoke, builtin, Builtin.max_, Builtin.max2, hm]
 omit [Tab P] in
theorem TyIs.slice {t d : Nat} {r : Row} (T : TyIs P t r) (hd : r.d = .slice d) : T.u = .slice d := by have := T.d; rw [hd] at this; cases hT : T.u <;> simp [hT, dOf] at this; rw [this]
theorem Q.indexAddr {t bl off m c d : Nat} {j : Nat} {r re : Row} (ho : o.op = .indexAddr t x y) (ht : ty P t = some r) (hd : r.d = .slice d) (hte : ty P d = some re) (hx : ev e x = some (.slice (some ⟨bl, off, none⟩) m c)) (hy : ev e y = some (.int k (j : Int))) (hj : j < m) :
    QOp P n e S o (.pointer (some ⟨bl, off + j * re.size, none⟩)) := .val fun w a h1 _ => by
  obtain ⟨T⟩ := ty_is ht
  obtain ⟨E⟩ := ty_is hte
  unfold execOp; rw [ho]
  simp [h1.eval hx, h1.eval hy, Instr.indexAt, asIntOf, T.run_under, T.slice hd, E.run_size, hj, addr_add]
 omit [Tab P] in
theorem sliceBounds_run {len cap lo hi : Nat} {w : World} {vl vh : Option Value} (hh : vh = none ∧ hi = len ∨ vh = some (.int .i64 (hi : Int)) ∧ hi ≤ cap) (hl : vl = none ∧ lo = 0 ∨ vl = some (.int .i64 (lo : Int)) ∧ lo ≤ hi) :
    (Instr.sliceBounds true len cap vl vh none).run P w = .ok (lo, hi, cap) w := by
  unfold Instr.sliceBounds
  rcases hh with ⟨rfl, rfl⟩ | ⟨rfl, hh⟩ <;> rcases hl with ⟨rfl, rfl⟩ | ⟨rfl, hl⟩ <;> simp [Instr.sliceBound, asIntOf, *]
theorem Q.slice {t d len cap lo hi : Nat} {A : Option Addr} {r re : Row} {ol oh : Option Operand} {vl vh : Option Value} (ho : o.op = .slice t x ol oh none) (ht : ty P t = some r) (hd : r.d = .slice d) (hte : ty P d = some re) (hx : ev e x = some (.slice A len cap))
    (hol : (match ol with | none => some none | some y => (ev e y).map some) = some vl) (hoh : (match oh with | none => some none | some y => (ev e y).map some) = some vh)
    (hh : vh = none ∧ hi = len ∨ vh = some (.int .i64 (hi : Int)) ∧ hi ≤ cap) (hl : vl = none ∧ lo = 0 ∨ vl = some (.int .i64 (lo : Int)) ∧ lo ≤ hi) :
    QOp P n e S o (.slice (if cap = lo then A else A.map (·.add (lo * re.size))) (hi - lo) (cap - lo)) := .val fun w a h1 _ => by
  obtain ⟨T⟩ := ty_is ht
  obtain ⟨E⟩ := ty_is hte
  have e1 : ol.map a.eval = vl := by
    cases ol with
    | none => simpa using hol
    | some y => cases hy : ev e y <;> simp [hy] at hol; subst hol; simp [h1.eval hy]
  have e2 : oh.map a.eval = vh := by
    cases oh with
    | none => simpa using hoh
    | some y => cases hy : ev e y <;> simp [hy] at hoh; subst hoh; simp [h1.eval hy]
  unfold execOp; rw [ho]
  simp [h1.eval hx, e1, e2, Instr.sliceAt, Instr.slice, T.run_under, T.slice hd, sliceBounds_run (P := P) hh hl, E.run_size]
theorem Q.convInt {s t : Nat} {r : Row} {k' : IntKind} (ho : o.op = .convert s t x) (hts : (ty P s).isSome = true) (ht : ty P t = some r) (hd : r.d = .int k') (hx : ev e x = some (.int k a)) : QOp P n e S o (.int k' (k'.wrap a)) := .val fun w a' h1 _ => by
  obtain ⟨T⟩ := ty_is ht
  obtain ⟨rs, hrs⟩ := Option.isSome_iff_exists.1 hts
  obtain ⟨T0⟩ := ty_is hrs
  have hu : T.u = .int k' := by have := T.d; rw [hd] at this; cases hT : T.u <;> simp [hT, dOf] at this; rw [this]
  unfold execOp; rw [ho]
  simp [h1.eval hx, convert, T0.run_under, T.run_under, hu, Conv.intToInt]
theorem Q.field {t i fo ft : Nat} {r rf : Row} {fs : List (Nat × Nat × Nat)} {cs : List Value} {sz : Nat} (ho : o.op = .field t x i) (ht : ty P t = some r) (hd : r.d = .strct fs) (hi : fs[i]? = some (fo, ft, sz)) (htf : ty P ft = some rf) (ha : rf.agg = false) (hx : ev e x = some (.agg cs.toArray)) (hc : cs[fo]? = some v) : QOp P n e S o v := .val fun w a h1 _ => by
  obtain ⟨T⟩ := ty_is ht
  obtain ⟨E⟩ := ty_is htf
  obtain ⟨F, hF, hm⟩ := dOf_strct (hd ▸ T.d)
  obtain ⟨f, hf, hf1, hf2, j, hj, hsz⟩ := fsOf_get hm hi
  have hf' : F[i]? = some f := by simpa using hf
  unfold execOp; rw [ho]
  simp [h1.eval hx, Instr.field, T.run_under, hF, hf', asAgg, part, hf1, hf2, E.run_agg, ha, hc]
end
end Go.SL

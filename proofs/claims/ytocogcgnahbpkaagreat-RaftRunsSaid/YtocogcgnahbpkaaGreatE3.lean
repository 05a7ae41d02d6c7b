/-
  A part of the proof of what E53 says at its head.
-/
import Derived.IntWalk
import Derived.Test.YtocogcgnahbpkaaGreatE2
namespace Go.SL
open Go.RowKit
inductive D where
  | bool | int (k : IntKind) | str | ptr (e : Nat) | slice (e : Nat) | arr (n e : Nat) | map (k e : Nat) | strct (fs : List (Nat × Nat × Nat)) | iface | func | chan (e : Nat) | other
structure Row where
  agg : Bool
  size : Nat
  bytes : Nat
  zero : List Value
  d : D
def fsOf (P : Program) : List Field → Option (List (Nat × Nat × Nat))
  | [] => some []
  | f :: r => match P.info? f.type, fsOf P r with
    | some i, some l => some ((f.offset, f.type, i.size) :: l)
    | _, _ => none
def isAggD : TypeDesc → Bool
  | .struct _ | .array _ _ => true
  | _ => false
def dOf (P : Program) : TypeDesc → Option D
  | .bool => some .bool
  | .int k => some (.int k)
  | .string => some .str
  | .pointer e => some (.ptr e)
  | .slice e => some (.slice e)
  | .array n e => some (.arr n e)
  | .map k e => some (.map k e)
  | .struct fs => (fsOf P fs.toList).map .strct
  | .interface _ => some .iface
  | .func .. => some .func
  | .chan _ e => some (.chan e)
  | _ => some .other
def rowOf (P : Program) (t : Nat) : Option Row := do
  let i ← P.info? t
  let u ← P.underlying t
  let d ← dOf P u
  let z ← i.zero
  some ⟨isAggD u, i.size, i.bytes, z.cells.toList, d⟩
class Tab (P : Program) where
  rows : List (Nat × Row)
  ok : rows.map (fun x => rowOf P x.1) = rows.map fun x => some x.2
def lookR : List (Nat × Row) → Nat → Option Row
  | [], _ => none
  | (k, v) :: r, t => bif Nat.beq k t then some v else lookR r t
def ty (P : Program) [Tab P] (t : Nat) : Option Row := lookR (Tab.rows P) t
theorem lookR_mem : ∀ {l : List (Nat × Row)} {t : Nat} {r : Row}, lookR l t = some r → (t, r) ∈ l
  | [], _, _, h => nomatch h
  | (k, v) :: l, t, r, h => by
    have h' : (bif Nat.beq k t then some v else lookR l t) = some r := h
    cases hb : Nat.beq k t with
    | true => rw [hb] at h'; injection h' with h'; rw [Nat.eq_of_beq_eq_true hb, h']; exact List.mem_cons_self ..
    | false => rw [hb] at h'; exact List.mem_cons_of_mem _ (lookR_mem h')
theorem ty_ok {P : Program} [Tab P] {t : Nat} {r : Row} (h : ty P t = some r) : rowOf P t = some r := by
  obtain ⟨i, hi, e⟩ := List.mem_iff_getElem.1 (lookR_mem h)
  have := congrArg (fun l => l[i]?) (Tab.ok (P := P))
  simpa [List.getElem?_eq_getElem hi, e] using this
structure TyIs (P : Program) (t : Nat) (r : Row) where
  i : TypeInfo
  u : TypeDesc
  z : Value
  info : P.info? t = some i
  under : P.underlying t = some u
  d : dOf P u = some r.d
  zero : i.zero = some z
  cells : z.cells = r.zero.toArray
  size : i.size = r.size
  bytes : i.bytes = r.bytes
  agg : isAggD u = r.agg
theorem rowOf_is {P : Program} {t : Nat} {r : Row} (h : rowOf P t = some r) : Nonempty (TyIs P t r) := by
  unfold rowOf at h
  simp only [Option.bind_eq_bind, Option.bind_eq_some_iff] at h
  obtain ⟨i, hi, u, hu, d, hd, z, hz, h⟩ := h
  injection h with h
  subst h
  exact ⟨⟨i, u, z, hi, hu, hd, hz, by simp, rfl, rfl, rfl⟩⟩
theorem ty_is {P : Program} [Tab P] {t : Nat} {r : Row} (h : ty P t = some r) : Nonempty (TyIs P t r) := rowOf_is (ty_ok h)
section
variable {P : Program} {t : Nat} {r : Row} {w : World}
theorem TyIs.run_under (h : TyIs P t r) : (underlying t).run P w = .ok h.u w := by simp [underlying, h.under]
theorem TyIs.run_info (h : TyIs P t r) : (typeInfo t).run P w = .ok h.i w := by simp [typeInfo, h.info]
theorem TyIs.run_size (h : TyIs P t r) : (sizeOf t).run P w = .ok r.size w := by simp [sizeOf, h.run_info, h.size]
theorem TyIs.run_zero (h : TyIs P t r) : (zeroValue t).run P w = .ok h.z w := by simp [zeroValue, h.run_info, h.zero]
theorem TyIs.run_agg (h : TyIs P t r) : (isAgg t).run P w = .ok r.agg w := by
  unfold isAgg
  rw [Sem.run_bind, h.run_under, Result.andThen_ok, ← h.agg]
  cases h.u <;> rfl
end
section
variable {P : Program} {n : Nat} {e : Env} {L S : List HP} {o : Oper} {v u : Value} {x y : Operand}
theorem QOp.val (h : ∀ w (a : Act), Ag n e a.tmps → Sat w S → (execOp a.eval o).run P w = .ok (.value v) w) : QOp P n e S o v := fun w a h1 h2 => by rw [h w a h1 h2]; exact ⟨rfl, .refl w⟩
theorem Q.move (ho : o.op = .move x) (hx : ev e x = some v) : QOp P n e S o v := .val fun w a h1 _ => by unfold execOp; rw [ho]; simp only [h1.eval hx]; rfl
theorem Q.assign (ho : o.op = .assign x) (hx : ev e x = some v) : QOp P n e S o v := .val fun w a h1 _ => by unfold execOp; rw [ho]; simp only [h1.eval hx]; rfl
theorem Q.pickT {c : Operand} (ho : o.op = .pick c x y) (hc : ev e c = some (.bool true)) (hx : ev e x = some v) : QOp P n e S o v := .val fun w a h1 _ => by
  unfold execOp; rw [ho]; simp [h1.eval hc, h1.eval hx, asBool]
theorem Q.pickF {c : Operand} (ho : o.op = .pick c x y) (hc : ev e c = some (.bool false)) (hx : ev e y = some v) : QOp P n e S o v := .val fun w a h1 _ => by
  unfold execOp; rw [ho]; simp [h1.eval hc, h1.eval hx, asBool]
theorem Q.nilCheck {p : Addr} (ho : o.op = .nilCheck x) (hx : ev e x = some (.pointer (some p))) : QOp P n e S o (.pointer (some p)) := .val fun w a h1 _ => by
  unfold execOp; rw [ho]; simp [h1.eval hx]
theorem Q.nilCheckF {f : Nat} {A B : Array Value} (ho : o.op = .nilCheck x) (hx : ev e x = some (.func (.func f) A B)) : QOp P n e S o (.func (.func f) A B) := .val fun w a h1 _ => by
  unfold execOp; rw [ho]; simp [h1.eval hx]
theorem Q.nilCheckS {A : Option Addr} {m c : Nat} (ho : o.op = .nilCheck x) (hx : ev e x = some (.slice A m c)) : QOp P n e S o (.slice A m c) := .val fun w a h1 _ => by
  unfold execOp; rw [ho]; simp [h1.eval hx]
theorem addr_add (b o k : Nat) : (⟨b, o, none⟩ : Addr).add k = ⟨b, o + k, none⟩ := by unfold Addr.add; split <;> simp_all
theorem fsOf_get : ∀ {fs : List Field} {l : List (Nat × Nat × Nat)} {i off ft sz : Nat}, fsOf P fs = some l → l[i]? = some (off, ft, sz) →
    ∃ f, fs[i]? = some f ∧ f.offset = off ∧ f.type = ft ∧ ∃ j, P.info? f.type = some j ∧ j.size = sz
  | [], l, i, off, ft, sz, h, hi => by injection h with h; subst h; simp at hi
  | f :: fs, l, i, off, ft, sz, h, hi => by
    unfold fsOf at h
    cases hj : P.info? f.type with
    | none => simp only [hj] at h; cases h
    | some j =>
      cases hl : fsOf P fs with
      | none => simp only [hj, hl] at h; cases h
      | some l' =>
        simp only [hj, hl] at h
        injection h with h
        subst h
        cases i with
        | zero => simp at hi; obtain ⟨rfl, rfl, rfl⟩ := hi; exact ⟨f, rfl, rfl, rfl, j, hj, rfl⟩
        | succ i => simp only [List.getElem?_cons_succ] at hi ⊢; exact fsOf_get hl hi
theorem dOf_strct {u : TypeDesc} {l : List (Nat × Nat × Nat)} (h : dOf P u = some (.strct l)) : ∃ fs, u = .struct fs ∧ fsOf P fs.toList = some l := by
  cases u <;> simp [dOf] at h
  rename_i fs
  exact ⟨fs, rfl, h⟩
theorem run_loadCellsFrom {b off : Nat} {w : World} : ∀ (m i : Nat) (cs : List Value) (acc : Array Value), cs.length = m → (∀ j v, cs[j]? = some v → w.cell? ⟨b, off + i + j, none⟩ = some v) →
    (loadCellsFrom ⟨b, off, none⟩ i m acc).run P w = .ok (acc ++ cs.toArray) w
  | 0, i, cs, acc, hl, _ => by obtain rfl := List.eq_nil_of_length_eq_zero hl; simp [loadCellsFrom]
  | m + 1, i, [], acc, hl, _ => by simp at hl
  | m + 1, i, c :: cs, acc, hl, h => by
    have h0 := h 0 c rfl
    unfold loadCellsFrom
    simp only [addr_add, Sem.run_bind]
    have hrun : (load ⟨b, off + i, none⟩ : Sem Value).run P w = .ok c w := by simp [show w.cell? ⟨b, off + i, none⟩ = some c from h0]
    rw [hrun, Result.andThen_ok, run_loadCellsFrom m (i + 1) cs (acc.push c) (by simpa using hl) (fun j v hj => by rw [show off + (i + 1) + j = off + i + (j + 1) by omega]; exact h (j + 1) v (by simpa using hj))]
    congr 1
    simp
theorem cell_own {q : Bool} {b off : Nat} {cs : List Value} {t : Nat} {fz : Nat × Nat} {w : World} (h : w.heap[b]? = some (.cells cs.toArray t fz)) : w.cell? ⟨b, off, none⟩ = cs[off]? := by
  unfold World.cell?
  simp only [h]
  simp
theorem ev2 {a : Act} {u : Value} (h1 : Ag n e a.tmps) (hx : ev e x = some v) (hy : ev e y = some u) : a.eval x = v ∧ a.eval y = u := ⟨h1.eval hx, h1.eval hy⟩
theorem Q.bin {op : BinOp} {t t' : Nat} (ho : o.op = .binOp op t x y t') (hx : ev e x = some v) (hy : ev e y = some u) {z : Value} (hg : ∀ w : World, (eqGuard op t x y v u).run P w = .ok () w) (h : ∀ w : World, (binOp op t v u).run P w = .ok z w) : QOp P n e S o z := .val fun w a h1 _ => by
  unfold execOp; rw [ho]
  simp [h1.eval hx, h1.eval hy, hg, h]
theorem eqg_int {op : BinOp} {t : Nat} {k k' : IntKind} {a b : Int} (w : World) : (eqGuard op t x y (.int k a) (.int k' b)).run P w = .ok () w := by
  unfold eqGuard
  split <;> simp
theorem wrap_in {a : Int} (h : -9223372036854775808 ≤ a ∧ a ≤ 9223372036854775807) : IntKind.i64.wrap a = a := IntWalk.i64_in _ h
variable {a b : Int} {k : IntKind} {t t' : Nat}
theorem Q.add (ho : o.op = .binOp .add t x y t') (hx : ev e x = some (.int .i64 a)) (hy : ev e y = some (.int .i64 b)) (h : -9223372036854775808 ≤ a + b ∧ a + b ≤ 9223372036854775807) : QOp P n e S o (.int .i64 (a + b)) :=
  Q.bin ho hx hy eqg_int fun w => by simp [binOp, Op.intArith, wrap_in h]
theorem Q.sub (ho : o.op = .binOp .sub t x y t') (hx : ev e x = some (.int .i64 a)) (hy : ev e y = some (.int .i64 b)) (h : -9223372036854775808 ≤ a - b ∧ a - b ≤ 9223372036854775807) : QOp P n e S o (.int .i64 (a - b)) :=
  Q.bin ho hx hy eqg_int fun w => by simp [binOp, Op.intArith, wrap_in h]
theorem Q.mul (ho : o.op = .binOp .mul t x y t') (hx : ev e x = some (.int .i64 a)) (hy : ev e y = some (.int .i64 b)) (h : -9223372036854775808 ≤ a * b ∧ a * b ≤ 9223372036854775807) : QOp P n e S o (.int .i64 (a * b)) :=
  Q.bin ho hx hy eqg_int fun w => by simp [binOp, Op.intArith, wrap_in h]
theorem Q.lss (ho : o.op = .binOp .lss t x y t') (hx : ev e x = some (.int k a)) (hy : ev e y = some (.int k b)) : QOp P n e S o (.bool (decide (a < b))) := Q.bin ho hx hy eqg_int fun w => by simp [binOp, Op.intCmp]
theorem Q.leq (ho : o.op = .binOp .leq t x y t') (hx : ev e x = some (.int k a)) (hy : ev e y = some (.int k b)) : QOp P n e S o (.bool (decide (a ≤ b))) := Q.bin ho hx hy eqg_int fun w => by simp [binOp, Op.intCmp]
theorem Q.gtr (ho : o.op = .binOp .gtr t x y t') (hx : ev e x = some (.int k a)) (hy : ev e y = some (.int k b)) : QOp P n e S o (.bool (decide (b < a))) := Q.bin ho hx hy eqg_int fun w => by simp [binOp, Op.intCmp]
theorem Q.geq (ho : o.op = .binOp .geq t x y t') (hx : ev e x = some (.int k a)) (hy : ev e y = some (.int k b)) : QOp P n e S o (.bool (decide (b ≤ a))) := Q.bin ho hx hy eqg_int fun w => by simp [binOp, Op.intCmp]
theorem Q.eql (ho : o.op = .binOp .eql t x y t') (hx : ev e x = some (.int k a)) (hy : ev e y = some (.int k b)) : QOp P n e S o (.bool (decide (a = b))) := Q.bin ho hx hy eqg_int fun w => by
  simp [binOp, Op.intCmp]; exact Bool.eq_iff_iff.2 (by simp)
theorem Q.neq (ho : o.op = .binOp .neq t x y t') (hx : ev e x = some (.int k a)) (hy : ev e y = some (.int k b)) : QOp P n e S o (.bool (decide (a ≠ b))) := Q.bin ho hx hy eqg_int fun w => by
  simp [binOp, Op.intCmp]; exact Bool.eq_iff_iff.2 (by simp)
theorem Q.not {p : Bool} (ho : o.op = .unOp .not t x) (hx : ev e x = some (.bool p)) : QOp P n e S o (.bool (!p)) := .val fun w a h1 _ => by unfold execOp; rw [ho]; simp [h1.eval hx, Op.unary]
theorem Q.neg (ho : o.op = .unOp .neg t x) (hx : ev e x = some (.int .i64 a)) (h : -9223372036854775808 ≤ -a ∧ -a ≤ 9223372036854775807) : QOp P n e S o (.int .i64 (-a)) := .val fun w a' h1 _ => by
  unfold execOp; rw [ho]; simp [h1.eval hx, Op.unary, Op.intArith, wrap_in h]
theorem Q.extract {vs : Array Value} {i : Nat} (ho : o.op = .extract x i) (hx : ev e x = some (.tuple vs)) (hi : vs[i]? = some v) : QOp P n e S o v := .val fun w a h1 _ => by unfold execOp; rw [ho]; simp [h1.eval hx, Instr.extract, hi]
variable [Tab P]
theorem Q.fieldAddr {t i b off fo ft sz : Nat} {r : Row} {fs : List (Nat × Nat × Nat)} (ho : o.op = .fieldAddr t x i) (ht : ty P t = some r) (hd : r.d = .strct fs) (hi : fs[i]? = some (fo, ft, sz)) (hs : Nat.beq sz 0 = false)
    (hx : ev e x = some (.pointer (some ⟨b, off, none⟩))) : QOp P n e S o (.pointer (some ⟨b, off + fo, none⟩)) := .val fun w a h1 _ => by
  obtain ⟨T⟩ := ty_is ht
  obtain ⟨F, hF, hm⟩ := dOf_strct (hd ▸ T.d)
  obtain ⟨f, hf, hf1, hf2, j, hj, hsz⟩ := fsOf_get hm hi
  have hsz' : sz ≠ 0 := fun h => by rw [h] at hs; cases hs
  unfold execOp; rw [ho]
  have hf' : F[i]? = some f := by simpa using hf
  simp [h1.eval hx, Instr.fieldAt, T.run_under, hF, hf', Instr.sureAddr, fieldPlace, sizeOf, typeInfo, hj, hsz, hsz', hf1, addr_add]
theorem run_loadVar {t b off : Nat} {r : Row} {u : Value} {w : World} (ht : ty P t = some r) (ha : r.agg = false) (h : w.cell? ⟨b, off, none⟩ = some u) : (loadVar t ⟨b, off, none⟩).run P w = .ok u w := by
  obtain ⟨T⟩ := ty_is ht
  simp [loadVar, T.run_agg, ha, h]
theorem run_loadAgg {t b off : Nat} {r : Row} {cs : List Value} {w : World} (ht : ty P t = some r) (ha : r.agg = true) (hl : cs.length = r.size) (h : ∀ j v, cs[j]? = some v → w.cell? ⟨b, off + j, none⟩ = some v) :
    (loadVar t ⟨b, off, none⟩).run P w = .ok (.agg cs.toArray) w := by
  obtain ⟨T⟩ := ty_is ht
  simp only [loadVar, Sem.run_bind, T.run_agg, Result.andThen_ok, ha, if_true, loadCells, T.run_size]
  rw [run_loadCellsFrom r.size 0 cs #[] hl (by simpa using h)]
  simp
theorem Q.load {t b off bt : Nat} {q : Bool} {cs : List Value} {r : Row} {S' : List HP} {fz : Nat × Nat} (ho : o.op = .load t x) (ht : ty P t = some r) (ha : r.agg = false) (hx : ev e x = some (.pointer (some ⟨b, off, none⟩)))
    (hp : Pick (Own q b (.cells cs.toArray bt fz)) S S') (hc : cs[off]? = some v) : QOp P n e S o v := .val fun w a h1 h2 => by
  have hb := (h2.ent hp.ent).own
  unfold execOp; rw [ho]
  simp [h1.eval hx, Instr.loadAt, Instr.sureAddr, run_loadVar ht ha ((cell_own (q := q) hb).trans hc)]
theorem Q.loadAll {t b bt : Nat} {q : Bool} {cs : List Value} {r : Row} {S' : List HP} {fz : Nat × Nat} (ho : o.op = .load t x) (ht : ty P t = some r) (ha : r.agg = true) (hx : ev e x = some (.pointer (some ⟨b, 0, none⟩)))
    (hp : Pick (Own q b (.cells cs.toArray bt fz)) S S') (hl : cs.length = r.size) : QOp P n e S o (.agg cs.toArray) := .val fun w a h1 h2 => by
  have hb := (h2.ent hp.ent).own
  unfold execOp; rw [ho]
  simp [h1.eval hx, Instr.loadAt, Instr.sureAddr, run_loadAgg ht ha hl fun j v hj => (cell_own (q := q) hb).trans (by rw [Nat.zero_add]; exact hj)]
theorem Q.loadPart {t b bt off : Nat} {q : Bool} {cs vs : List Value} {r : Row} {S' : List HP} {fz : Nat × Nat} (ho : o.op = .load t x) (ht : ty P t = some r) (ha : r.agg = true) (hx : ev e x = some (.pointer (some ⟨b, off, none⟩)))
    (hp : Pick (Own q b (.cells cs.toArray bt fz)) S S') (hv : (cs.drop off).take r.size = vs) (hl : vs.length = r.size) : QOp P n e S o (.agg vs.toArray) := .val fun w a h1 h2 => by
  have hb := (h2.ent hp.ent).own
  unfold execOp; rw [ho]
  have hc : ∀ j v, vs[j]? = some v → w.cell? ⟨b, off + j, none⟩ = some v := fun j v hj => (cell_own (q := q) hb).trans (by
    have hlt : j < r.size := by rw [← hl]; exact (List.getElem?_eq_some_iff.1 hj).1
    rw [← hv, List.getElem?_take_of_lt hlt, List.getElem?_drop] at hj; exact hj)
  simp [h1.eval hx, Instr.loadAt, Instr.sureAddr, run_loadAgg ht ha hl hc]
end
end Go.SL
namespace Go.SL
open Go.RowKit
def setAt : List Value → Nat → Value → Option (List Value)
  | [], _, _ => none
  | _ :: cs, 0, v => some (v :: cs)
  | c :: cs, n + 1, v => match setAt cs n v with
    | some l => some (c :: l)
    | none => none
def partAt : List Value → Nat → Nat → Option (List Value)
  | _, _, 0 => some []
  | [], _, _ + 1 => none
  | c :: cs, 0, k + 1 => match partAt cs 0 k with
    | some l => some (c :: l)
    | none => none
  | _ :: cs, n + 1, k + 1 => partAt cs n (k + 1)
def evs (e : Env) : List Operand → Option (List Value)
  | [] => some []
  | x :: r => match ev e x with
    | some v => match evs e r with
      | some l => some (v :: l)
      | none => none
    | none => none
def putL : List Value → Nat → List Value → Option (List Value)
  | cs, _, [] => some cs
  | [], _, _ :: _ => none
  | _ :: cs, 0, v :: vs => match putL cs 0 vs with
    | some l => some (v :: l)
    | none => none
  | c :: cs, n + 1, v :: vs => match putL cs n (v :: vs) with
    | some l => some (c :: l)
    | none => none
theorem setAt_eq : ∀ {cs : List Value} {n : Nat} {v : Value} {l : List Value}, setAt cs n v = some l → l = cs.set n v ∧ n < cs.length
  | [], _, _, _, h => nomatch h
  | _ :: cs, 0, v, l, h => by injection h with h; subst h; simp
  | c :: cs, n + 1, v, l, h => by
    unfold setAt at h
    cases hs : setAt cs n v with
    | none => simp only [hs] at h; cases h
    | some l' => simp only [hs] at h; injection h with h; subst h; obtain ⟨h1, h2⟩ := setAt_eq hs; subst h1; simp; exact h2
theorem partAt_eq : ∀ {cs : List Value} {n k : Nat} {l : List Value}, partAt cs n k = some l → (cs.drop n).take k = l ∧ l.length = k
  | cs, n, 0, l, h => by unfold partAt at h; injection h with h; subst h; simp
  | [], _, _ + 1, _, h => by unfold partAt at h; cases h
  | c :: cs, 0, k + 1, l, h => by
    unfold partAt at h
    cases hs : partAt cs 0 k with
    | none => simp only [hs] at h; cases h
    | some l' => simp only [hs] at h; injection h with h; subst h; obtain ⟨h1, h2⟩ := partAt_eq hs; simp at h1 ⊢; exact ⟨h1, h2⟩
  | c :: cs, n + 1, k + 1, l, h => by
    unfold partAt at h
    have := partAt_eq h
    simpa using this
theorem evs_eq {n : Nat} {e : Env} {a : Act} (h : Ag n e a.tmps) : ∀ {l : List Operand} {vs : List Value}, evs e l = some vs → l.map a.eval = vs
  | [], vs, hv => by injection hv with hv
  | x :: r, vs, hv => by
    unfold evs at hv
    cases hx : ev e x with
    | none => simp only [hx] at hv; cases hv
    | some v =>
      cases hr : evs e r with
      | none => simp only [hx, hr] at hv; cases hv
      | some l => simp only [hx, hr] at hv; injection hv with hv; subst hv; rw [List.map_cons, h.eval hx, evs_eq h hr]
theorem putL_eq : ∀ {cs : List Value} {n : Nat} {vs : List Value} {l : List Value}, putL cs n vs = some l → l.length = cs.length ∧ n + vs.length ≤ max n cs.length ∧ (∀ j, l[j]? = if n ≤ j ∧ j < n + vs.length then vs[j - n]? else cs[j]?)
  | cs, n, [], l, h => by
    have : l = cs := by cases cs <;> (unfold putL at h; injection h with h; exact h.symm)
    subst this
    refine ⟨rfl, by simp; omega, fun j => ?_⟩
    rw [if_neg (by simp only [List.length_nil]; omega)]
  | [], _, _ :: _, _, h => by unfold putL at h; cases h
  | c :: cs, 0, v :: vs, l, h => by
    unfold putL at h
    cases hs : putL cs 0 vs with
    | none => simp only [hs] at h; cases h
    | some l' =>
      simp only [hs] at h; injection h with h; subst h
      obtain ⟨h1, h2, h3⟩ := putL_eq hs
      refine ⟨by simp [h1], by simp at h2 ⊢; omega, fun j => ?_⟩
      cases j with
      | zero => simp
      | succ j => have := h3 j; simp at this ⊢; rw [this]
  | c :: cs, n + 1, v :: vs, l, h => by
    unfold putL at h
    cases hs : putL cs n (v :: vs) with
    | none => simp only [hs] at h; cases h
    | some l' =>
      simp only [hs] at h; injection h with h; subst h
      obtain ⟨h1, h2, h3⟩ := putL_eq hs
      refine ⟨by simp [h1], by simp at h2 ⊢; omega, fun j => ?_⟩
      cases j with
      | zero => simp
      | succ j =>
        have := h3 j
        simp only [List.getElem?_cons_succ, List.length_cons] at this ⊢
        rw [this]
        by_cases hj : n ≤ j ∧ j < n + (vs.length + 1)
        · rw [if_pos hj, if_pos (by omega), show j + 1 - (n + 1) = j - n by omega]
        · rw [if_neg hj, if_neg (by omega)]
def isOne : Value → Bool
  | .agg _ | .tuple _ => false
  | _ => true
theorem isOne_cells {v : Value} (h : isOne v = true) : v.cells = #[v] ∧ v.oneCell' = true := by cases v <;> first | exact ⟨rfl, rfl⟩ | (simp [isOne] at h)
section
variable {P : Program} {n : Nat} {e : Env} {L L' S : List HP} {o : Oper} {v u : Value} {x y : Operand} {K : Fin}
theorem OpS.run (h : ∀ (F : HP) w (a : Act), Ag n e a.tmps → Sat w (L ++ [F]) → ∃ v w' L', (execOp a.eval o).run P w = .ok (.value v) w' ∧ K v L' ∧ Sat w' (L' ++ [F])) : OpS P n e L o K := fun F w a next Q h1 h2 h3 => by
  obtain ⟨v, w', L', hr, hk, hs⟩ := h F w a h1 h2
  unfold Oper.wp; rw [hr]; exact h3 v w' L' hk hs
theorem OpN.run (h : ∀ (F : HP) w (a : Act), Ag n e a.tmps → Sat w (L ++ [F]) → ∃ v w' L', (execOp a.eval o).run P w = .ok (.value v) w' ∧ K v L' ∧ Sat w' (L' ++ [F]) ∧ Grows w w') : OpN P n e L o K := fun F w a next Q h1 h2 h3 => by
  obtain ⟨v, w', L', hr, hk, hs, hg⟩ := h F w a h1 h2
  unfold Oper.wp; rw [hr]; exact h3 v w' L' hk hs hg
theorem Grows.alloc {w : World} {o : Obj} : Grows w (w.alloc o) := Grows.push rfl
theorem OpS.run0 (h : ∀ (F : HP) w (a : Act), Ag n e a.tmps → Sat w (L ++ [F]) → ∃ w', (execOp a.eval o).run P w = .ok .skip w' ∧ Sat w' (L' ++ [F])) : OpS P n e L o (Det undef L') := fun F w a next Q h1 h2 h3 => by
  obtain ⟨w', hr, hs⟩ := h F w a h1 h2
  unfold Oper.wp; rw [hr]; exact h3 undef w' L' ⟨rfl, rfl⟩ hs
theorem Pick.entF {Q : HP} {L L' : List HP} {F : HP} (h : Pick Q L L') : Ent (L ++ [F]) (Q :: (L' ++ [F])) := Ent.frame h.ent
theorem frozen_own {b off : Nat} {cs : List Value} {t : Nat} {w : World} (h : w.heap[b]? = some (.cells cs.toArray t (0, 0))) : w.frozen? ⟨b, off, none⟩ = false := by
  unfold World.frozen?; simp only [h]; simp
theorem store_upd {b off bt : Nat} {cs : List Value} {w : World} {L : List HP} (hs : Sat w (Blk true b cs bt :: L)) (v : Value) : Sat (w.setCell ⟨b, off, none⟩ v) (Blk true b (cs.set off v) bt :: L) := by
  have hb := hs.own
  refine hs.upd ?_ fun i hi => Below.heap_setCell w ⟨b, off, none⟩ v i hi
  simp only [World.setCell, Array.getElem?_modify, if_pos rfl, hb]
  simp
theorem run_storeCells {b bt off : Nat} {L : List HP} : ∀ {vs : List Value} (i : Nat) {cs : List Value} {w : World}, Sat w (Blk true b cs bt :: L) → (∀ v ∈ vs, isOne v = true) → off + i + vs.length ≤ cs.length →
    ∃ w' cs', (storeCells ⟨b, off, none⟩ vs i).run P w = .ok () w' ∧ Sat w' (Blk true b cs' bt :: L) ∧ cs'.length = cs.length ∧ ∀ j, cs'[j]? = if off + i ≤ j ∧ j < off + i + vs.length then vs[j - (off + i)]? else cs[j]?
  | [], i, cs, w, hs, _, _ => ⟨w, cs, rfl, hs, rfl, fun j => by rw [if_neg (by simp only [List.length_nil]; omega)]⟩
  | v :: vs, i, cs, w, hs, ho, hl => by
    simp only [List.length_cons] at hl
    obtain ⟨w', cs', h1, h2, h3, h4⟩ := run_storeCells (off := off) (vs := vs) (i + 1) (store_upd (off := off + i) hs v) (fun u hu => ho u (List.mem_cons_of_mem _ hu)) (by simp; omega)
    refine ⟨w', cs', ?_, h2, by simpa using h3, fun j => ?_⟩
    · unfold storeCells
      simp only [addr_add, Sem.run_bind]
      have hb := hs.own
      have hc : w.cell? ⟨b, off + i, none⟩ = some cs[off + i] := (cell_own (q := true) hb).trans (List.getElem?_eq_getElem (by omega : off + i < cs.length))
      have hone := (isOne_cells (ho v (List.mem_cons_self ..))).2
      have := run_store P w ⟨b, off + i, none⟩ v .plain hone
      rw [this]
      simp only [hc, frozen_own hb]
      exact h1
    · rw [h4 j]
      simp only [List.length_cons]
      by_cases hj : off + (i + 1) ≤ j ∧ j < off + (i + 1) + vs.length
      · rw [if_pos hj, if_pos (by omega), show j - (off + i) = (j - (off + (i + 1))) + 1 by omega, List.getElem?_cons_succ]
      · rw [if_neg hj]
        by_cases hj2 : j = off + i
        · subst hj2
          rw [if_pos (by omega), Nat.sub_self, List.getElem?_set_self (by omega)]; rfl
        · rw [if_neg (by omega), List.getElem?_set_ne (by omega)]
theorem N.boxV {t : Nat} (ho : o.op = .box t x) (hx : ev e x = some v) (hv : isOne v = true) : OpN P n e L o fun v' L' => ∃ z, v' = .pointer (some ⟨z, 0, none⟩) ∧ L' = Blk true z [v] t :: L := .run fun F w a h1 h2 => by
  refine ⟨_, w.alloc (.cells [v].toArray t (0, 0)), _, ?_, ⟨w.heap.size, rfl, rfl⟩, h2.alloc, .alloc⟩
  unfold execOp; rw [ho]
  simp [h1.eval hx, Instr.box, newVar, newRow, (isOne_cells hv).1]
theorem N.box {t : Nat} {vs : List Value} (ho : o.op = .box t x) (hx : ev e x = some (.agg vs.toArray)) : OpN P n e L o fun v' L' => ∃ z, v' = .pointer (some ⟨z, 0, none⟩) ∧ L' = Blk true z vs t :: L := .run fun F w a h1 h2 => by
  refine ⟨_, w.alloc (.cells vs.toArray t (0, 0)), _, ?_, ⟨w.heap.size, rfl, rfl⟩, h2.alloc, .alloc⟩
  unfold execOp; rw [ho]
  simp [h1.eval hx, Instr.box, newVar, newRow, Value.cells]
variable [Tab P]
theorem O.store {t b off bt : Nat} {cs cs' : List Value} {r : Row} (ho : o.op = .store t x y) (ht : ty P t = some r) (hr : Nat.beq r.size 1 = true) (hx : ev e x = some (.pointer (some ⟨b, off, none⟩))) (hy : ev e y = some v) (hv : isOne v = true)
    (hp : Pick (Blk true b cs bt) L L') (hc : setAt cs off v = some cs') : OpS P n e L o (Det undef (Blk true b cs' bt :: L')) := .run0 fun F w a h1 h2 => by
  obtain ⟨T⟩ := ty_is ht
  obtain ⟨hc1, hc2⟩ := setAt_eq hc
  have hs := h2.ent hp.entF
  have hb := hs.own
  refine ⟨w.setCell ⟨b, off, none⟩ v, ?_, hc1 ▸ store_upd hs v⟩
  unfold execOp; rw [ho]
  have hcell : w.cell? ⟨b, off, none⟩ = some cs[off] := (cell_own (q := true) hb).trans (List.getElem?_eq_getElem hc2)
  have hst := run_store P w ⟨b, off, none⟩ v .plain (isOne_cells hv).2
  simp only [hcell, frozen_own hb] at hst
  have e1 : r.size = 1 := Nat.eq_of_beq_eq_true hr
  simp [h1.eval hx, h1.eval hy, Instr.storeAt, Instr.sureAddr, storeVar, T.run_size, (isOne_cells hv).1, e1, storeCells, addr_add, hst]
theorem O.storeAgg {t b off bt : Nat} {cs cs' vs : List Value} {r : Row} (ho : o.op = .store t x y) (ht : ty P t = some r) (hx : ev e x = some (.pointer (some ⟨b, off, none⟩))) (hy : ev e y = some (.agg vs.toArray)) (hl : Nat.beq vs.length r.size = true)
    (hv : vs.all isOne = true) (hp : Pick (Blk true b cs bt) L L') (hc : putL cs off vs = some cs') (hle : Nat.ble (off + vs.length) cs.length = true) : OpS P n e L o (Det undef (Blk true b cs' bt :: L')) := .run0 fun F w a h1 h2 => by
  obtain ⟨T⟩ := ty_is ht
  obtain ⟨hp1, _, hp3⟩ := putL_eq hc
  have hs := h2.ent hp.entF
  obtain ⟨w', cs2, h3, h4, h5, h6⟩ := run_storeCells (P := P) (off := off) (vs := vs) 0 hs (by simpa using hv) (by have := Nat.le_of_ble_eq_true hle; omega)
  have e2 : cs2 = cs' := List.ext_getElem? fun j => by rw [h6 j, hp3 j]; rfl
  subst e2
  refine ⟨w', ?_, h4⟩
  unfold execOp; rw [ho]
  have e1 : vs.length = r.size := Nat.eq_of_beq_eq_true hl
  simp [h1.eval hx, h1.eval hy, Instr.storeAt, Instr.sureAddr, storeVar, T.run_size, Value.cells, e1, h3]
theorem N.alloc {t : Nat} {r : Row} (ho : o.op = .alloc t) (ht : ty P t = some r) : OpN P n e L o fun v L' => ∃ z, v = .pointer (some ⟨z, 0, none⟩) ∧ L' = Blk true z r.zero t :: L := .run fun F w a h1 h2 => by
  obtain ⟨T⟩ := ty_is ht
  refine ⟨_, w.alloc (.cells r.zero.toArray t (0, 0)), _, ?_, ⟨w.heap.size, rfl, rfl⟩, h2.alloc, .alloc⟩
  unfold execOp; rw [ho]
  simp [Instr.alloc, T.run_zero, newVar, newRow, T.cells]
end
section
variable {P : Program} {n : Nat} {e : Env} {L L' S : List HP} {o : Oper} {v u : Value} {x y : Operand} {K R : Fin}
theorem call_run {g : Operand} {f : Nat} {A B : Array Value} {args : Array Operand} {ts : Array Nat} {vs : List Value} {a : Act} {w : World} (ho : o.op = .call ⟨.value g, args, ts⟩) (hg : ev e g = some (.func (.func f) A B)) (hv : evs e args.toList = some vs)
    (h1 : Ag n e a.tmps) (hf : Enters P f) : (execOp a.eval o).run P w = .ok (.enter f (A ++ vs.toArray ++ B)) w := by
  have hm : args.map a.eval = vs.toArray := by rw [← evs_eq h1 hv, ← Array.toList_map]
  unfold execOp; rw [ho]
  simp [resolve, h1.eval hg, Deferred.ofValue, hm, invoke, hf _ w]
theorem O.call {g : Operand} {f : Nat} {args : Array Operand} {ts : Array Nat} {vs : List Value} {pre : List HP} (ho : o.op = .call ⟨.value g, args, ts⟩) (hg : ev e g = some (.func (.func f) #[] #[])) (hv : evs e args.toList = some vs)
    (h : Fn P f vs.toArray pre R) (hL : Ent L (pre ++ L')) : OpS P n e L o fun v M => ∃ L2, R v L2 ∧ M = L2 ++ L' := fun F w a next Q h1 h2 h3 => by
  unfold Oper.wp
  rw [call_run ho hg hv h1 h.1]
  have h4 : Sat w (pre ++ [Stars (L' ++ [F])]) := (h2.entF hL).ent (by rw [List.append_assoc]; exact (Ent.refl pre).app (by have := Ent.unstar (l := L' ++ [F]) (m := []); rwa [List.append_nil] at this))
  have h5 := h.2 (Stars (L' ++ [F])) w h4
  simp only [Oper.upon, Array.empty_append, Array.append_empty]
  refine h5.mono ?_
  rintro _ w' ⟨v, L2, rfl, hr, hs⟩
  refine h3 v w' (L2 ++ L') ⟨L2, hr, rfl⟩ (hs.ent ?_)
  rw [List.append_assoc]
  exact (Ent.refl L2).app (by have := Ent.star (l := L' ++ [F]) (m := []); rwa [List.append_nil] at this)
theorem N.call {g : Operand} {f : Nat} {args : Array Operand} {ts : Array Nat} {vs : List Value} {pre : List HP} (ho : o.op = .call ⟨.value g, args, ts⟩) (hg : ev e g = some (.func (.func f) #[] #[])) (hv : evs e args.toList = some vs)
    (h : FnN P f vs.toArray pre R) (hL : Ent L pre) : OpN P n e L o fun v M => ∃ N, R v N ∧ M = N ++ L := fun F w a next Q h1 h2 h3 => by
  unfold Oper.wp
  rw [call_run ho hg hv h1 h.1]
  have h5 := h.2 (L ++ [F]) w (h2.fst.ent hL) h2
  simp only [Oper.upon, Array.empty_append, Array.append_empty]
  refine h5.mono ?_
  rintro _ w' ⟨v, N, rfl, hr, hs, hG⟩
  exact h3 v w' (N ++ L) ⟨N, hr, rfl⟩ (by rw [List.append_assoc]; exact hs) hG
theorem Q.call {g : Operand} {f : Nat} {args : Array Operand} {ts : Array Nat} {vs : List Value} {pre : List HP} (ho : o.op = .call ⟨.value g, args, ts⟩) (hg : ev e g = some (.func (.func f) #[] #[])) (hv : evs e args.toList = some vs)
    (h : FnQ P f vs.toArray pre v) (hL : Ent S pre) : QOp P n e S o v := fun w a h1 h2 => by
  rw [call_run ho hg hv h1 h.1]
  exact ⟨rfl, by have := h.2 w (h2.ent hL); simpa using this⟩
end
end Go.SL

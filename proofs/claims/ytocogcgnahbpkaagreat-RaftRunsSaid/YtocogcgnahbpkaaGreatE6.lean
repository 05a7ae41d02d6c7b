/-
  A part of the proof of what E53 says at its head.
-/
import Derived.Deep.AppendSrc
import Derived.Laws.OwnMore
import Derived.Test.YtocogcgnahbpkaaGreatE5
namespace Go.SL
open Go.RowKit
def adr (A : Option Addr) (k : Nat) : Option Addr := A.map (·.add k)
def Rd (q : Bool) (A : Option Addr) (cs : List Value) : HP := fun r => cs = [] ∨ ∃ g off E fz, ∃ pre post : List Value, A = some ⟨g, off, none⟩ ∧ pre.length = off ∧ Own q g (.cells (pre ++ cs ++ post).toArray E fz) r
def Gr (sz : Nat) (E : TypeId) (A : Option Addr) (n c : Nat) (cs : List Value) : HP := fun r => cs.length = n * sz ∧ ((n = 0 ∧ c = 0) ∨
  ∃ g, ∃ pre junk : List Value, A = some ⟨g, pre.length, none⟩ ∧ n ≤ c ∧ c ≤ maxLen ∧ junk.length = (c - n) * sz ∧ Own true g (.cells (pre ++ cs ++ junk).toArray E (0, 0)) r)
theorem Gr.rd {sz E n c : Nat} {A : Option Addr} {cs : List Value} {r : Res} (h : Gr sz E A n c cs r) : Rd true A cs r := by
  obtain ⟨hl, ⟨rfl, _⟩ | ⟨g, pre, junk, hA, _, _, _, h⟩⟩ := h
  · exact .inl (List.eq_nil_of_length_eq_zero (by simpa using hl))
  · exact .inr ⟨g, pre.length, E, (0, 0), pre, junk, hA, rfl, h⟩
theorem Rd.lend {q : Bool} {A : Option Addr} {cs : List Value} {r : Res} (h : Rd q A cs r) : Rd false A cs r := by
  rcases h with h | ⟨g, off, E, fz, pre, post, h1, h2, h3⟩
  · exact .inl h
  · exact .inr ⟨g, off, E, fz, pre, post, h1, h2, h3.lend⟩
theorem Rd.pers {A : Option Addr} {cs : List Value} : Pers (Rd false A cs) := fun r h => by
  rcases h with h | ⟨g, off, E, fz, pre, post, h1, h2, h3⟩
  · exact .inl h
  · exact .inr ⟨g, off, E, fz, pre, post, h1, h2, Pers.own r h3⟩
theorem Rd.nil {q : Bool} {A : Option Addr} {r : Res} : Rd q A [] r := .inl rfl
theorem Gr.nil {sz E : Nat} {r : Res} : Gr sz E none 0 0 [] r := ⟨by simp, .inl ⟨rfl, rfl⟩⟩
def Reads (X : HP) (A : Option Addr) (cs : List Value) : Prop := ∀ r, X r → Rd false A cs r
theorem Reads.rd {q : Bool} {A : Option Addr} {cs : List Value} : Reads (Rd q A cs) A cs := fun _ h => h.lend
theorem Reads.gr {sz E n c : Nat} {A : Option Addr} {cs : List Value} : Reads (Gr sz E A n c cs) A cs := fun _ h => h.rd.lend
theorem Reads.own {q : Bool} {g E : Nat} {fz : Nat × Nat} {cs : List Value} : Reads (Own q g (.cells cs.toArray E fz)) (some ⟨g, 0, none⟩) cs := fun _ h =>
  .inr ⟨g, 0, E, fz, [], [], rfl, rfl, by simpa using h.lend⟩
theorem Sat.lend {w : World} {X : HP} {L : List HP} {A : Option Addr} {cs : List Value} (h : Sat w (X :: L)) (hx : Reads X A cs) : Sat w (Rd false A cs :: L) := h.ent (Ent.head (k := [Rd false A cs]) fun r hr => ⟨r, fun _ => none, .refl _, fun _ _ _ h => (nomatch h), fun _ _ _ _ _ _ h => (nomatch h), hx r hr, trivial⟩)
theorem Rd.cell {w : World} {q : Bool} {A : Option Addr} {cs : List Value} {L : List HP} {k : Nat} {v : Value} (h : Sat w (Rd q A cs :: L)) (hk : cs[k]? = some v) : ∃ g off, A = some ⟨g, off, none⟩ ∧ w.cell? ⟨g, off + k, none⟩ = some v := by
  obtain ⟨r, a, r1, r2, x, y, z, h1, h2⟩ := h
  rcases h1 with rfl | ⟨g, off, E, fz, pre, post, e1, e2, e3⟩
  · simp at hk
  · refine ⟨g, off, e1, ?_⟩
    have hb : w.heap[g]? = some (.cells (pre ++ cs ++ post).toArray E fz) := Sat.own (q := q) (l := []) ⟨r1, a.le x, r1, fun _ => none, .refl _, fun _ _ _ h => (nomatch h), fun _ _ _ _ _ _ h => (nomatch h), e3, trivial⟩
    rw [cell_own (q := q) hb, List.append_assoc, List.getElem?_append_right (by omega), List.getElem?_append_left (by have := (List.getElem?_eq_some_iff.1 hk).1; omega), ← hk]
    congr 1; omega
section
variable {α : Type} {enc : α → List Value} {sz : Nat}
theorem flat_len (hs : ∀ x, (enc x).length = sz) : ∀ xs : List α, (xs.flatMap enc).length = xs.length * sz
  | [] => by simp
  | x :: r => by rw [List.flatMap_cons, List.length_append, hs, flat_len hs r, List.length_cons, Nat.add_mul]; omega
theorem flat_at (hs : ∀ x, (enc x).length = sz) : ∀ (xs : List α) (k j : Nat) (x : α), xs[k]? = some x → j < sz → (xs.flatMap enc)[k * sz + j]? = (enc x)[j]?
  | [], k, j, x, h, _ => by simp at h
  | y :: r, 0, j, x, h, hj => by
    simp at h; subst h
    rw [List.flatMap_cons, Nat.zero_mul, Nat.zero_add, List.getElem?_append_left (by rw [hs]; exact hj)]
  | y :: r, k + 1, j, x, h, hj => by
    rw [List.flatMap_cons, List.getElem?_append_right (by rw [hs, Nat.add_mul]; omega), hs]
    have e : (k + 1) * sz + j - sz = k * sz + j := by rw [Nat.add_mul]; omega
    rw [e]
    exact flat_at hs r k j x (by simpa using h) hj
end
section
variable {P : Program} {n : Nat} {e : Env} {L L' S S' : List HP} {o : Oper} {v u : Value} {x y : Operand} {k : IntKind} [Tab P] {X : HP} {A : Option Addr} {cs : List Value}
def IsA (A : Option Addr) : Prop := ∃ g off, A = some ⟨g, off, none⟩
 omit [Tab P] in
theorem IsA.of {k : Nat} (hX : Reads X A cs) (hp : Pick X L L') (hk : k < cs.length) {w : World} (h : Sat w L) : IsA A := by
  obtain ⟨g, off, hA, _⟩ := Rd.cell ((h.ent hp.ent).lend hX) (List.getElem?_eq_getElem hk)
  exact ⟨g, off, hA⟩
theorem R.idx {t m c d j : Nat} {r re : Row} (ho : o.op = .indexAddr t x y) (ht : ty P t = some r) (hd : r.d = .slice d) (hte : ty P d = some re) (hx : ev e x = some (.slice A m c)) (hy : ev e y = some (.int k (j : Int))) (hA : IsA A) (hj : j < m) :
    QOp P n e S o (.pointer (adr A (j * re.size))) := .val fun w a h1 h2 => by
  obtain ⟨T⟩ := ty_is ht
  obtain ⟨E⟩ := ty_is hte
  obtain ⟨g, off, rfl⟩ := hA
  unfold execOp; rw [ho]
  simp [h1.eval hx, h1.eval hy, Instr.indexAt, asIntOf, T.run_under, T.slice hd, E.run_size, hj, addr_add, adr]
theorem R.fld {t i fo ft k : Nat} {sz : Nat} {r : Row} {fs : List (Nat × Nat × Nat)} (ho : o.op = .fieldAddr t x i) (ht : ty P t = some r) (hd : r.d = .strct fs) (hi : fs[i]? = some (fo, ft, sz)) (hs : Nat.beq sz 0 = false)
    (hx : ev e x = some (.pointer (adr A k))) (hA : IsA A) : QOp P n e S o (.pointer (adr A (k + fo))) := .val fun w a h1 h2 => by
  obtain ⟨T⟩ := ty_is ht
  obtain ⟨F, hF, hm⟩ := dOf_strct (hd ▸ T.d)
  obtain ⟨f, hf, hf1, hf2, j, hj, hsz⟩ := fsOf_get hm hi
  have hsz' : sz ≠ 0 := fun h => by rw [h] at hs; cases hs
  obtain ⟨g, off, rfl⟩ := hA
  unfold execOp; rw [ho]
  have hf' : F[i]? = some f := by simpa using hf
  simp [h1.eval hx, Instr.fieldAt, T.run_under, hF, hf', Instr.sureAddr, fieldPlace, sizeOf, typeInfo, hj, hsz, hsz', hf1, addr_add, adr, Nat.add_assoc]
theorem R.cell {t i j sz : Nat} {r : Row} {α : Type} {enc : α → List Value} {xs : List α} {el : α} (ho : o.op = .load t x) (ht : ty P t = some r) (ha : r.agg = false) (hx : ev e x = some (.pointer (adr A (j * sz + i)))) (hX : Reads X A (xs.flatMap enc)) (hp : Pick X S S')
    (hs : ∀ x, (enc x).length = sz) (hj : xs[j]? = some el) (hc : (enc el)[i]? = some v) : QOp P n e S o v := .val fun w a h1 h2 => by
  have hc' : (xs.flatMap enc)[j * sz + i]? = some v := (flat_at hs xs j i el hj (by rw [← hs el]; exact (List.getElem?_eq_some_iff.1 hc).1)).trans hc
  obtain ⟨g, off, hA, hcell⟩ := Rd.cell ((h2.ent hp.ent).lend hX) hc'
  subst hA
  unfold execOp; rw [ho]
  simp [h1.eval hx, Instr.loadAt, Instr.sureAddr, adr, addr_add, run_loadVar ht ha hcell]
theorem R.load {t k : Nat} {r : Row} (ho : o.op = .load t x) (ht : ty P t = some r) (ha : r.agg = false) (hx : ev e x = some (.pointer (adr A k))) (hX : Reads X A cs) (hp : Pick X S S') (hc : cs[k]? = some v) : QOp P n e S o v := .val fun w a h1 h2 => by
  obtain ⟨g, off, hA, hcell⟩ := Rd.cell ((h2.ent hp.ent).lend hX) hc
  subst hA
  unfold execOp; rw [ho]
  simp [h1.eval hx, Instr.loadAt, Instr.sureAddr, adr, addr_add, run_loadVar ht ha hcell]
theorem R.loadE {t j : Nat} {r : Row} {α : Type} {enc : α → List Value} {xs : List α} {el : α} (ho : o.op = .load t x) (ht : ty P t = some r) (ha : r.agg = true) (hx : ev e x = some (.pointer (adr A (j * r.size)))) (hX : Reads X A (xs.flatMap enc)) (hp : Pick X S S')
    (hs : ∀ x, (enc x).length = r.size) (hz : Nat.beq r.size 0 = false) (hj : xs[j]? = some el) : QOp P n e S o (.agg (enc el).toArray) := .val fun w a h1 h2 => by
  have hz' : 0 < r.size := by rcases Nat.eq_zero_or_pos r.size with h | h; rw [h] at hz; cases hz; exact h
  have hc : ∀ i u, (enc el)[i]? = some u → (xs.flatMap enc)[j * r.size + i]? = some u := fun i u hu => (flat_at hs xs j i el hj (by rw [← hs el]; exact (List.getElem?_eq_some_iff.1 hu).1)).trans hu
  have h0 : ∃ u, (enc el)[0]? = some u := ⟨(enc el)[0]'(by rw [hs]; exact hz'), List.getElem?_eq_getElem _⟩
  obtain ⟨u0, hu0⟩ := h0
  obtain ⟨g, off, hA, _⟩ := Rd.cell ((h2.ent hp.ent).lend hX) (hc 0 u0 hu0)
  subst hA
  have hcell : ∀ i u, (enc el)[i]? = some u → w.cell? ⟨g, off + j * r.size + i, none⟩ = some u := fun i u hu => by
    obtain ⟨g', off', hA, h⟩ := Rd.cell ((h2.ent hp.ent).lend hX) (hc i u hu)
    injection hA with hA; injection hA with hg ho; subst hg; subst ho
    rw [Nat.add_assoc]; exact h
  unfold execOp; rw [ho]
  simp [h1.eval hx, Instr.loadAt, Instr.sureAddr, adr, addr_add, run_loadAgg ht ha (hs el) hcell]
theorem ext_cells {cs vs cs' : List Value} {off : Nat} (hl : cs'.length = cs.length) (h : ∀ j, cs'[j]? = if off ≤ j ∧ j < off + vs.length then vs[j - off]? else cs[j]?) (hle : off + vs.length ≤ cs.length) : cs' = cs.take off ++ vs ++ cs.drop (off + vs.length) := by
  apply List.ext_getElem?
  intro j
  rw [h j, List.append_assoc]
  by_cases h1 : j < off
  · rw [if_neg (by omega), List.getElem?_append_left (by rw [List.length_take]; omega), List.getElem?_take_of_lt h1]
  · rw [List.getElem?_append_right (by rw [List.length_take]; omega), List.length_take, Nat.min_eq_left (by omega)]
    by_cases h2 : j < off + vs.length
    · rw [if_pos (by omega), List.getElem?_append_left (by omega)]
    · rw [if_neg (by omega), List.getElem?_append_right (by omega), List.getElem?_drop]
      congr 1; omega
theorem run_append {t tx tr E m sz c : Nat} {nn : Nat} {r re : Row} {A : Option Addr} {cs news : List Value} {x : Value} {w : World} {L : List HP} (ht : ty P t = some r) (hd : r.d = .slice E) (hte : ty P E = some re) (hsz : re.size = sz) (hzl : Nat.beq re.zero.length re.size = true) (hs : Sat w (Gr sz E A nn c cs :: L))
    (hsrc : ∀ w' : World, Grows w w' → Src P sz tx x m news w') (h63 : nn + m ≤ maxLen) (hby : (nn + m) * re.bytes ≤ 140737488355328) :
    ∃ A' c' w', (Builtin.append_ #[t, tx] tr #[.slice A nn c, x]).run P w = .ok (.slice A' (nn + m) c') w' ∧ Sat w' (Gr sz E A' (nn + m) c' (cs ++ news) :: L) := by
  obtain ⟨T⟩ := ty_is ht
  obtain ⟨TE⟩ := ty_is hte
  have hu : P.underlying t = some (.slice E) := by rw [← T.slice hd]; exact T.under
  have hS := hsrc w (.refl w)
  have hszE : TE.i.size = sz := by rw [TE.size, hsz]
  obtain ⟨q, hq, r1, r2, p1, p2, p3, ⟨hcl, hgr⟩, p4⟩ := hs
  have hlen : (cs ++ news).length = (nn + m) * sz := by rw [List.length_append, hcl, hS.newsLen, Nat.add_mul]
  have h63' : ((nn + m : Nat) : Int) ≤ 9223372036854775807 := by simp only [maxLen] at h63; omega
  by_cases hroom : nn + m ≤ c
  · rcases hgr with ⟨rfl, rfl⟩ | ⟨g, pre, junk, rfl, hnc, hcm, hj, hown⟩
    · obtain rfl : m = 0 := by omega
      have hc0 := List.eq_nil_of_length_eq_zero (by simpa using hcl)
      have hn0 := List.eq_nil_of_length_eq_zero (by simpa using hS.newsLen)
      subst hc0; subst hn0
      refine ⟨A, 0, w, ?_, q, hq, r1, r2, p1, p2, p3, ⟨by simp, .inl ⟨rfl, rfl⟩⟩, p4⟩
      have h1 := hS.len w
      have h2 := hS.cells
      cases A <;> rcases hS.kind with ⟨e', hk⟩ | hk <;> simp [Builtin.append_, run_underlying hu, run_underlying hk, sizeOf, typeInfo, TE.info, h1, h2, hszE, storeCells]
    · have hsat : Sat w (Blk true g (pre ++ cs ++ junk) E :: L) := ⟨q, hq, r1, r2, p1, p2, p3, hown, p4⟩
      have hpc : (pre ++ cs).length = pre.length + nn * sz := by rw [List.length_append, hcl]
      obtain ⟨w', cs', h1, h2, h3, h4⟩ := run_storeCells (P := P) (off := pre.length + nn * sz) (vs := news) 0 hsat (fun u hu => by
          have := hS.one u hu
          cases u <;> simp_all [isOne, Value.oneCell'])
        (by rw [List.length_append, hpc, hj, hS.newsLen]; have : nn * sz + m * sz ≤ nn * sz + (c - nn) * sz := Nat.add_le_add_left (Nat.mul_le_mul_right _ (by omega)) _; omega)
      have hle : pre.length + nn * sz + news.length ≤ (pre ++ cs ++ junk).length := by
        rw [List.length_append, hpc, hj, hS.newsLen]; have : nn * sz + m * sz ≤ nn * sz + (c - nn) * sz := Nat.add_le_add_left (Nat.mul_le_mul_right _ (by omega)) _; omega
      have e1 : cs' = pre ++ (cs ++ news) ++ junk.drop news.length := by
        rw [ext_cells (off := pre.length + nn * sz) h3 (by simpa using h4) hle, ← hpc, List.take_left, ← List.drop_drop, List.drop_left, List.append_assoc pre cs news]
      refine ⟨some ⟨g, pre.length, none⟩, c, w', ?_, ?_⟩
      · have h5 := hS.len w
        have h6 := hS.cells
        rcases hS.kind with ⟨e', hk⟩ | hk <;> simp [Builtin.append_, run_underlying hu, run_underlying hk, sizeOf, typeInfo, TE.info, h5, h6, hszE, hroom, addr_add, h1]
      · rw [e1] at h2
        obtain ⟨q', a1, a2, a3, a4, a5, a6, a7, a8⟩ := h2
        exact ⟨q', a1, a2, a3, a4, a5, a6, ⟨hlen, .inr ⟨g, pre, _, rfl, hroom, hcm, by rw [List.length_drop, hj, hS.newsLen, ← Nat.sub_mul]; congr 1; omega, a7⟩⟩, a8⟩
  · have hS' := hsrc w (.refl w)
    have holds : (Builtin.firstCells TE.i.size nn (.slice A nn c)).run P w.drew = .ok cs.toArray w.drew := by
      rcases hgr with ⟨rfl, rfl⟩ | ⟨g, pre, junk, rfl, hnc, hcm, hj, hown⟩
      · have hc0 := List.eq_nil_of_length_eq_zero (by simpa using hcl)
        subst hc0
        cases A with
        | none => exact run_firstCells_none (w := w.drew) TE.i.size 0 0 0
        | some a => exact run_firstCells_some (w := w.drew) TE.i.size 0 a 0 0 [] (by simp) fun j u hu => by simp at hu
      · refine run_firstCells_some (w := w.drew) TE.i.size nn ⟨g, pre.length, none⟩ nn c cs (by rw [hszE]; exact hcl) fun j u hu => ?_
        have hb : w.heap[g]? = some (.cells (pre ++ cs ++ junk).toArray E (0, 0)) := Sat.own (q := true) (l := L) ⟨q, hq, r1, r2, p1, p2, p3, hown, p4⟩
        rw [addr_add]
        show w.cell? _ = _
        have hjl := (List.getElem?_eq_some_iff.1 hu).1
        rw [cell_own (q := true) hb, List.append_assoc, List.getElem?_append_right (by omega), Nat.add_sub_cancel_left, List.getElem?_append_left hjl]; exact hu
    have hr := run_append_grow_src (P := P) w t tx tr E TE.i TE.z hu TE.info TE.zero A nn c cs holds x m news (by rw [hszE]; exact hS') (by omega) h63' (growslice_fits (by omega) (by rw [TE.bytes]; exact hby))
    have hge := grownCap_ge w (nn + m) c E
    refine ⟨_, _, _, hr, ?_⟩
    have hL : Sat w L := ⟨r2, hq.le p2, p4⟩
    have h2 := (hL.grows (w' := w.drew) (.same rfl)).alloc (o := .cells ((cs ++ news).toArray ++ Builtin.zeroCells TE.z.cells (grownCap w (nn + m) c E - (nn + m))) E (0, 0))
    obtain ⟨q', a1, a2, a3, a4, a5, a6, a7, a8⟩ := h2
    refine ⟨q', a1, a2, a3, a4, a5, a6, ⟨hlen, .inr ⟨w.heap.size, [], (Builtin.zeroCells TE.z.cells (grownCap w (nn + m) c E - (nn + m))).toList, rfl, hge, grownCap_le_maxLen w (nn + m) c E h63, ?_, ?_⟩⟩, a8⟩
    · rw [Array.length_toList, size_zeroCells, ← hsz, TE.cells, List.size_toArray, Nat.eq_of_beq_eq_true hzl]
    · have e2 : ((cs ++ news).toArray ++ Builtin.zeroCells TE.z.cells (grownCap w (nn + m) c E - (nn + m))) = (cs ++ news ++ (Builtin.zeroCells TE.z.cells (grownCap w (nn + m) c E - (nn + m))).toList).toArray := by simp
      rw [List.nil_append, ← e2]; exact a7
theorem Src.reads {tx m c sz d : Nat} {rx : Row} {w : World} {M : List HP} (htx : ty P tx = some rx) (hdx : rx.d = .slice d) (hs : Sat w (X :: M)) (hX : Reads X A cs) (hl : cs.length = m * sz) (hz : 0 < sz) (h1 : cs.all isOne = true) : Src P sz tx (.slice A m c) m cs w := by
  obtain ⟨T⟩ := ty_is htx
  have hu : P.underlying tx = some (.slice d) := by rw [← T.slice hdx]; exact T.under
  have hone : ∀ u ∈ cs, u.oneCell' = true := fun u hu => (isOne_cells (List.all_eq_true.1 h1 u hu)).2
  cases A with
  | none =>
    have h0 : cs = [] := by
      rcases List.eq_nil_or_concat cs with h | ⟨l, u, h⟩
      · exact h
      · obtain ⟨g, off, hA, _⟩ := Rd.cell (hs.lend hX) (k := l.length) (v := u) (by rw [h]; simp)
        cases hA
    subst h0
    have hm : m = 0 := by
      rcases Nat.eq_zero_or_pos m with h | h
      · exact h
      · have := Nat.mul_pos h hz; simp at hl; omega
    subst hm
    exact Src.ofNil w hu c
  | some a => exact Src.ofSlice w hu a m c cs hl (fun j u hj => by
      obtain ⟨g, off, hA, hc⟩ := Rd.cell (hs.lend hX) hj
      injection hA with hA; subst hA
      rw [addr_add]; exact hc) hone
theorem O.append {s : Operand} {t tx E m c sz nn : Nat} {r re : Row} {news : List Value} {xv : Value} (ho : o.op = .call ⟨.builtin .append, #[s, x], #[t, tx]⟩) (ht : ty P t = some r) (hd : r.d = .slice E) (hte : ty P E = some re) (hsz : re.size = sz) (hzl : Nat.beq re.zero.length re.size = true)
    (hs : ev e s = some (.slice A nn c)) (hx : ev e x = some xv) (hp : Pick (Gr sz E A nn c cs) L L') (hsrc : ∀ w, Sat w L' → Src P sz tx xv m news w) (h63 : nn + m ≤ maxLen) (hby : (nn + m) * re.bytes ≤ 140737488355328) :
    OpS P n e L o fun v M => ∃ A' c', v = .slice A' (nn + m) c' ∧ M = Gr sz E A' (nn + m) c' (cs ++ news) :: L' := .run fun F w a h1 h2 => by
  have h3 := h2.ent hp.entF
  have h4 : Sat w L' := (h3.ent (.drop _)).fst
  obtain ⟨A', c', w', hr, hs'⟩ := run_append (x := xv) (tr := o.type) ht hd hte hsz hzl h3 (fun w' hg => hsrc w' (h4.grows hg)) h63 hby
  refine ⟨_, w', _, ?_, ⟨A', c', rfl, rfl⟩, hs'⟩
  unfold execOp; rw [ho]
  simp [resolve, h1.eval hs, h1.eval hx, invoke, builtin, hr]
theorem Src.pick {tx m c sz d : Nat} {rx : Row} {M M' : List HP} (htx : ty P tx = some rx) (hdx : rx.d = .slice d) (hp : Pick X M M') (hX : Reads X A cs) (hl : cs.length = m * sz) (hz : Nat.beq sz 0 = false) (h1 : cs.all isOne = true) : ∀ w, Sat w M → Src P sz tx (.slice A m c) m cs w :=
  fun w hs => Src.reads htx hdx (hs.ent hp.ent) hX hl (by rcases Nat.eq_zero_or_pos sz with h | h; rw [h] at hz; cases hz; exact h) h1
theorem Src.none {tx sz d : Nat} {rx : Row} {c : Nat} {M : List HP} (htx : ty P tx = some rx) (hdx : rx.d = .slice d) : ∀ w, Sat w M → Src P sz tx (.slice none 0 c) 0 [] w := fun w _ => by
  obtain ⟨T⟩ := ty_is htx
  exact Src.ofNil w (by rw [← T.slice hdx]; exact T.under) c
def rowFs (sz : Nat) : List Nat → List (Nat × Nat × Nat)
  | [] => []
  | i :: r => (i * sz, 0, sz) :: rowFs sz r
def zeros (z : List Value) : Nat → List Value
  | 0 => []
  | k + 1 => z ++ zeros z k
theorem zeros_eq {z : List Value} (hz : 0 < z.length) : ∀ k, ((Array.range (k * z.length)).map (z.toArray[· % z.length]!)).toList = zeros z k := by
  have hlen : ∀ k, (zeros z k).length = k * z.length := by
    intro k; induction k with
    | zero => simp [zeros]
    | succ k ih => rw [zeros, List.length_append, ih, Nat.add_mul]; omega
  have hat : ∀ k i, i < k * z.length → (zeros z k)[i]? = z[i % z.length]? := by
    intro k
    induction k with
    | zero => intro i h; simp at h
    | succ k ih =>
      intro i h
      rw [zeros]
      by_cases hi : i < z.length
      · rw [List.getElem?_append_left hi, Nat.mod_eq_of_lt hi]
      · rw [List.getElem?_append_right (by omega), ih (i - z.length) (by rw [Nat.add_mul] at h; omega), ← Nat.mod_eq_sub_mod (by omega)]
  intro k
  apply List.ext_getElem?
  intro i
  by_cases hi : i < k * z.length
  · rw [hat k i hi]
    have hm : i % z.length < z.length := Nat.mod_lt _ hz
    simp [hi, hm]
  · rw [List.getElem?_eq_none (by simp; omega), List.getElem?_eq_none (by rw [hlen]; omega)]
theorem rowFs_get {sz : Nat} : ∀ {l : List Nat} {i off ft s : Nat}, (rowFs sz l)[i]? = some (off, ft, s) → ∃ q, l[i]? = some q ∧ off = q * sz ∧ s = sz
  | [], i, _, _, _, h => by simp [rowFs] at h
  | q :: l, 0, off, ft, s, h => by simp [rowFs] at h; exact ⟨q, rfl, h.1.symm, h.2.2.symm⟩
  | q :: l, i + 1, off, ft, s, h => by simp only [rowFs, List.getElem?_cons_succ] at h ⊢; exact rowFs_get h
theorem ixs_get {i q : Nat} (h : ixs[i]? = some q) : q = i := by
  have hi : i < 64 := (List.getElem?_eq_some_iff.1 h).1
  have : ∀ i : _root_.Fin 64, ixs[i.val]? = some i.val := by decide
  have := this ⟨i, hi⟩
  rw [this] at h; injection h with h; exact h.symm
theorem N.buildSlice {t E len : Nat} {ps : Array (Nat × Operand)} {r re : Row} {vs : List Value} (ho : o.op = .buildSlice t len ps) (ht : ty P t = some r) (hd : r.d = .slice E) (hte : ty P E = some re) (hzl : Nat.beq re.zero.length re.size = true) (hz : Nat.beq re.size 0 = false) (hlz : Nat.beq len 0 = false)
    (hv : parts e (rowFs re.size ixs) ps.toList (zeros re.zero len) = some vs) (hle : Nat.ble (len * re.size) 16777216 = true) :
    OpN P n e L o fun v M => ∃ z, v = .slice (some ⟨z, 0, none⟩) len len ∧ M = Blk true z vs E :: L := .run fun F w a h1 h2 => by
  obtain ⟨T⟩ := ty_is ht
  obtain ⟨TE⟩ := ty_is hte
  refine ⟨_, w.alloc (.cells vs.toArray E (0, 0)), _, ?_, ⟨w.heap.size, rfl, rfl⟩, h2.alloc, .alloc⟩
  have hle' : ¬ (16777216 < len * re.size) := by have := Nat.le_of_ble_eq_true hle; omega
  have hz' : re.size ≠ 0 := fun h => by rw [h] at hz; cases hz
  have hl' : len ≠ 0 := fun h => by rw [h] at hlz; cases hlz
  have hzs : re.zero.length = re.size := Nat.eq_of_beq_eq_true hzl
  have h3 := fill_parts h1 (place := fun i => some (i * re.size, re.size)) (fun i off ft s h => by
    obtain ⟨q, hq, rfl, rfl⟩ := rowFs_get h; rw [ixs_get hq]) hv
  have h4 : ((Array.range (len * re.size)).map (re.zero.toArray[· % re.size]!)) = (zeros re.zero len).toArray := by
    rw [← hzs, ← zeros_eq (by omega) len]
  have h5 : Instr.fill (fun i => some (i * re.size, re.size)) ((Array.range (len * re.size)).map (re.zero.toArray[· % re.size]!)) (ps.map fun x => (x.1, a.eval x.2)).toList = some vs.toArray := by
    rw [h4]; simpa using h3
  have h0 : ¬ (len * re.size = 0) := fun h => (Nat.mul_eq_zero.1 h).elim hl' hz'
  have h6 : (Instr.buildSlice t len (ps.map fun x => (x.1, a.eval x.2))).run P w = .ok (.slice (some ⟨w.heap.size, 0, none⟩) len len) (w.alloc (.cells vs.toArray E (0, 0))) := by
    unfold Instr.buildSlice
    simp only [Sem.run_bind, T.run_under, T.slice hd, Result.andThen_ok, TE.run_size]
    rw [if_neg (by simpa using hle')]
    simp only [Sem.run_bind, Sem.run_pure, Result.andThen_ok, if_neg h0, TE.run_zero, TE.cells]
    have h7 : (Array.map (fun x => re.zero.toArray[x % re.zero.toArray.size]!) (Array.range (len * re.size))) = ((Array.range (len * re.size)).map (re.zero.toArray[· % re.size]!)) := by
      simp only [List.size_toArray, hzs]
    rw [h7, h5]
    rfl
  unfold execOp; rw [ho]
  simp only [Sem.run_bind, h6, Result.andThen_ok]
  rfl
theorem Rd.le {q : Bool} {A : Option Addr} {cs : List Value} {r s : Res} (h : Rd q A cs r) (hs : r.le s) : Rd q A cs s := by
  rcases h with h | ⟨g, off, E, fz, pre, post, h1, h2, q', h3, h4⟩
  · exact .inl h
  · obtain ⟨q2, h5, h6⟩ := hs _ _ _ h3
    exact .inr ⟨g, off, E, fz, pre, post, h1, h2, q2, h5, fun hq => h6 (h4 hq)⟩
theorem N.buildSlice0 {t E : Nat} {r re : Row} (ho : o.op = .buildSlice t 0 #[]) (ht : ty P t = some r) (hd : r.d = .slice E) (hte : ty P E = some re) :
    OpN P n e L o fun v M => ∃ z, v = .slice (some ⟨z, 0, none⟩) 0 0 ∧ M = Gr re.size E (some ⟨z, 0, none⟩) 0 0 [] :: L := .run fun F w a h1 h2 => by
  obtain ⟨T⟩ := ty_is ht
  obtain ⟨TE⟩ := ty_is hte
  refine ⟨_, w.alloc (.cells #[] E (0, 0)), _, ?_, ⟨w.heap.size, rfl, rfl⟩, h2.alloc.ent (Ent.head (k := [_]) fun r hr => ⟨r, fun _ => none, .refl _, fun _ _ _ h => (nomatch h), fun _ _ _ _ _ _ h => (nomatch h), ⟨by simp, .inl ⟨rfl, rfl⟩⟩, trivial⟩), .alloc⟩
  unfold execOp; rw [ho]
  have hr : (Instr.buildSlice t 0 ((#[] : Array (Nat × Operand)).map fun x => (x.1, a.eval x.2))).run P w = .ok (.slice (some ⟨w.heap.size, 0, none⟩) 0 0) (w.alloc (.cells #[] E (0, 0))) := by
    unfold Instr.buildSlice
    simp only [Sem.run_bind, T.run_under, T.slice hd, Result.andThen_ok, TE.run_size, Nat.zero_mul]
    rw [if_neg (by simp), if_pos trivial]
    have hz : ∀ f : Nat → Value, Array.map f (Array.range 0) = #[] := fun f => by simp
    simp only [Sem.run_bind, Sem.run_pure, Result.andThen_ok, hz, Array.map_empty, Instr.fill]
    rfl
  simp only [Sem.run_bind, hr, Result.andThen_ok]
  rfl
 omit [Tab P] in
theorem TyIs.ptr {t d : Nat} {r : Row} (T : TyIs P t r) (hd : r.d = .ptr d) : P.underlying t = some (.pointer d) := by have := T.d; rw [hd] at this; cases hT : T.u <;> simp [hT, dOf] at this; rw [T.under, hT, this]
 omit [Tab P] in
theorem TyIs.slice' {t d : Nat} {r : Row} (T : TyIs P t r) (hd : r.d = .slice d) : P.underlying t = some (.slice d) := by rw [← T.slice hd]; exact T.under
 omit [Tab P] in
theorem TyIs.str {t : Nat} {r : Row} (T : TyIs P t r) (hd : r.d = .str) : P.underlying t = some .string := by have := T.d; rw [hd] at this; cases hT : T.u <;> simp [hT, dOf] at this; rw [T.under, hT]
 omit [Tab P] in
theorem TyIs.int {t : Nat} {k : IntKind} {r : Row} (T : TyIs P t r) (hd : r.d = .int k) : P.underlying t = some (.int k) := by have := T.d; rw [hd] at this; cases hT : T.u <;> simp [hT, dOf] at this; rw [T.under, hT, this]
 omit [Tab P] in
theorem TyIs.map {t kk d : Nat} {r : Row} (T : TyIs P t r) (hd : r.d = .map kk d) : P.underlying t = some (.map kk d) := by have := T.d; rw [hd] at this; cases hT : T.u <;> simp [hT, dOf] at this; rw [T.under, hT, this.1, this.2]
variable {t t' m c d : Nat} {r : Row}
theorem Q.eqNilS (ho : o.op = .binOp .eql t x y t') (ht : ty P t = some r) (hd : r.d = .slice d) (hx : ev e x = some (.slice A m c)) (hy : ev e y = some (.slice none 0 0)) : QOp P n e S o (.bool A.isNone) := by
  obtain ⟨T⟩ := ty_is ht
  exact Q.bin ho hx hy (fun w => rfl) fun w => Lib.run_eql_slice_nil w t d A m c 0 0 (T.slice' hd)
theorem Q.neNilS (ho : o.op = .binOp .neq t x y t') (ht : ty P t = some r) (hd : r.d = .slice d) (hx : ev e x = some (.slice A m c)) (hy : ev e y = some (.slice none 0 0)) : QOp P n e S o (.bool (!A.isNone)) := by
  obtain ⟨T⟩ := ty_is ht
  exact Q.bin ho hx hy (fun w => rfl) fun w => run_neq_slice_nil_any w t d A m c 0 0 (T.slice' hd)
theorem Q.eqNilP {p : Option Addr} (ho : o.op = .binOp .eql t x y t') (ht : ty P t = some r) (hd : r.d = .ptr d) (hx : ev e x = some (.pointer p)) (hy : ev e y = some (.pointer none)) : QOp P n e S o (.bool p.isNone) := by
  obtain ⟨T⟩ := ty_is ht
  exact Q.bin ho hx hy (fun w => rfl) fun w => run_eql_pointer_nil w t p (by rw [T.ptr hd]; simp [Program.pointee, T.ptr hd])
theorem Q.neNilP {p : Option Addr} (ho : o.op = .binOp .neq t x y t') (ht : ty P t = some r) (hd : r.d = .ptr d) (hx : ev e x = some (.pointer p)) (hy : ev e y = some (.pointer none)) : QOp P n e S o (.bool (!p.isNone)) := by
  obtain ⟨T⟩ := ty_is ht
  exact Q.bin ho hx hy (fun w => rfl) fun w => run_neq_pointer_nil w t p (by rw [T.ptr hd]; simp [Program.pointee, T.ptr hd])
 omit [Tab P] in
theorem Q.eqStr {a b : ByteArray} (ho : o.op = .binOp .eql t x y t') (hx : ev e x = some (.string a)) (hy : ev e y = some (.string b)) : QOp P n e S o (.bool (a.toList == b.toList)) :=
  Q.bin ho hx hy (fun w => rfl) fun w => by rw [binOp_string_eql]; rfl
 omit [Tab P] in
theorem Q.neStr {a b : ByteArray} (ho : o.op = .binOp .neq t x y t') (hx : ev e x = some (.string a)) (hy : ev e y = some (.string b)) : QOp P n e S o (.bool !(a.toList == b.toList)) :=
  Q.bin ho hx hy (fun w => rfl) fun w => by rw [binOp_string_neq]; rfl
def bc (b : Int) : Value := .int .u8 b
def strOf (l : List Int) : ByteArray := l.foldl (fun r b => r.push (UInt8.ofNat b.toNat)) ByteArray.empty
 omit [Tab P] in
theorem run_loadCells {w : World} {X : HP} {L : List HP} (h : Sat w (X :: L)) (hX : Reads X A cs) (hA : A ≠ none) : ∃ a, A = some a ∧ (loadCells a cs.length).run P w = .ok cs.toArray w := by
  cases A with
  | none => exact absurd rfl hA
  | some a =>
    refine ⟨a, rfl, ?_⟩
    unfold loadCells
    cases hcs : cs with
    | nil => rfl
    | cons v vs =>
      rw [← hcs]
      obtain ⟨g, off, hA, _⟩ := Rd.cell (h.lend hX) (k := 0) (v := v) (by rw [hcs]; rfl)
      injection hA with hA; subst hA
      rw [run_loadCellsFrom cs.length 0 cs #[] rfl fun j u hj => by
        obtain ⟨g', off', hA, hc⟩ := Rd.cell (h.lend hX) hj
        injection hA with hA; injection hA with h1 h2; subst h1; subst h2; exact hc]
      simp
theorem R.string {s tb : Nat} {rs rt rb : Row} {l : List Int} (ho : o.op = .convert s t x) (hs : ty P s = some rs) (hsd : rs.d = .slice tb) (hb : ty P tb = some rb) (hbd : rb.d = .int .u8) (ht : ty P t = some rt) (htd : rt.d = .str)
    (hx : ev e x = some (.slice A m c)) (hX : Reads X A (l.map bc)) (hp : Pick X S S') (hl : m = l.length) : QOp P n e S o (.string (strOf l)) := .val fun w a h1 h2 => by
  obtain ⟨T⟩ := ty_is hs
  obtain ⟨TB⟩ := ty_is hb
  obtain ⟨TD⟩ := ty_is ht
  subst hl
  have h3 := h2.ent hp.ent
  unfold execOp; rw [ho]
  simp only [h1.eval hx]
  have hr : (convert s t (.slice A l.length c)).run P w = .ok (.string (strOf l)) w := by
    rw [run_convert_bytes_string w s t tb A l.length c (T.slice' hsd) (TB.int hbd) (TD.str htd)]
    by_cases hA : A = none
    · subst hA
      have : l = [] := by
        cases l with
        | nil => rfl
        | cons b bs => obtain ⟨g, off, hA, _⟩ := Rd.cell (h3.lend hX) (k := 0) (v := bc b) rfl; cases hA
      subst this
      rfl
    · obtain ⟨a', rfl, hr⟩ := run_loadCells (P := P) h3 hX hA
      exact run_bytesToString w a' l.length c l (by rw [List.length_map] at hr; exact hr)
  simp [hr]
end
end Go.SL

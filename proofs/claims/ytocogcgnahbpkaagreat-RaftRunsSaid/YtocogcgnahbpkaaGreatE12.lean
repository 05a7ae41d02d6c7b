/-
  A part of the proof of what E53 says at its head.
-/
import Derived.Test.YtocogcgnahbpkaaGreatE11
namespace Go.SL
open Go.Proofs Go.Proofs.YtocogcgnahbpkaaGreat
open Rs (Nd)
attribute [local irreducible] W RS RG RD Fn FnQ OpS QOp Own Sat Rd Gr Mp
set_option maxRecDepth 10000
theorem zero3 : ∀ w, (zeroValue 3).run Tryz.prog w = .ok (.int .i64 0) w := zero_of (by kernel_rfl)
theorem zero4 : ∀ w, (zeroValue 4).run Tryz.prog w = .ok (.bool false) w := zero_of (by kernel_rfl)
def idxOf (l : List Int) (v : Int) : Int := match l.findIdx? (· = v) with | some j => (j : Int) | none => -1
theorem idxOf_at {l : List Int} {v : Int} {k : Nat} (h : l[k]? = some v) (hn : ∀ j, j < k → l[j]? ≠ some v) : idxOf l v = k := by
  have : l.findIdx? (· = v) = some k := by
    rw [List.findIdx?_eq_some_iff_getElem]
    obtain ⟨h1, h2⟩ := List.getElem?_eq_some_iff.1 h
    refine ⟨h1, by simpa using h2, fun j hj => ?_⟩
    have := hn j hj
    rw [List.getElem?_eq_getElem (by omega)] at this
    simpa using this
  simp [idxOf, this]
theorem idxOf_no {l : List Int} {v : Int} (h : v ∉ l) : idxOf l v = -1 := by
  have : l.findIdx? (· = v) = none := by
    rw [List.findIdx?_eq_none_iff]
    intro x hx
    simp only [decide_eq_false_iff_not]
    rintro rfl; exact h hx
  simp [idxOf, this]
section
variable {X : HP} {A : Option Addr} {c : Nat} {l : List Int} {v : Int}
theorem pers3 {A : Option Addr} {cs : List Value} : ∀ Q ∈ [Rd false A cs], Pers Q := by rintro Q (_ | ⟨_, h⟩); exact Rd.pers; cases h
theorem isA_of {n : Nat} {cs : List Value} {k : Nat} {w : World} {L L' : List HP} (hX : Reads X A cs) (hp : Pick X L L') (hk : k < cs.length) (h : Sat w L) : IsA A := IsA.of hX hp hk h
theorem idx_q (hX : Reads X A (l.map iv)) (hl : l.length ≤ 1099511627776) : FnQ Tryz.prog 114 [.slice A l.length c, iv v].toArray [X] (iv (idxOf l v)) := by
  refine (Fn.quietD (M := [Rd false A (l.map iv)]) ?_ pers3).pre (.of hX)
  have hR : Reads (Rd false A (l.map iv)) A (l.map iv) := Reads.rd
  refine Fn.enter Tryz.func114 rfl (by kernel_rfl) rfl ?_
  refine run ?_
  refine W.loopH (ι := Nat) (fun k => k ≤ l.length ∧ ∀ j, j < k → l[j]? ≠ some v) (fun k => [(0, .slice A l.length c), (1, iv v), (7, iv l.length), (8, iv k)])
    (fun k => [Rd false A (l.map iv)]) (fun k => l.length - k) 0 ⟨Nat.zero_le _, fun _ h => nomatch h⟩ subs (.refl _) ?_
  rintro k ⟨hk, hn⟩ ih
  by_cases hlt : k < l.length
  · have hx : l[k]? = some l[k] := List.getElem?_eq_getElem hlt
    generalize l[k] = y at hx
    refine W.fact (fun w h => IsA.of (k := k) hR .hd (by simpa using hlt) h) fun hA => ?_
    by_cases hy : v = y
    · subst hy
      refine run ?_
      refine .quiet rfl rfl rfl (R.load (v := iv v) rfl rfl rfl rfl hR pick (by rw [Nat.mul_one]; simp [hx])) ?_
      refine run ?_
      rw [idxOf_at hx hn]
      exact .retD Tryz.func114
    · refine run ?_
      refine .quiet rfl rfl rfl (R.load (v := iv y) rfl rfl rfl rfl hR pick (by rw [Nat.mul_one]; simp [hx])) ?_
      refine run ?_
      exact .back (ih (k + 1) ⟨by omega, fun j hj => by
        by_cases h : j = k
        · subst h; rw [hx]; intro e; injection e with e; exact hy e.symm
        · exact hn j (by omega)⟩ (by omega))
  · refine run ?_
    rw [idxOf_no fun hm => by obtain ⟨j, h⟩ := List.mem_iff_getElem?.1 hm; exact hn j (by have := (List.getElem?_eq_some_iff.1 h).1; omega) h]
    exact .retD Tryz.func114
theorem has_q (hX : Reads X A (l.map iv)) (hl : l.length ≤ 1099511627776) : FnQ Tryz.prog 86 [.slice A l.length c, iv v].toArray [X] (.bool (decide (v ∈ l))) := by
  refine (Fn.quietD (M := [Rd false A (l.map iv)]) ?_ pers3).pre (.of hX)
  refine Fn.enter Tryz.func86 rfl (by kernel_rfl) rfl ?_
  refine run ?_
  refine .callQ (idx_q (v := v) .rd hl) ?_
  by_cases hv : v ∈ l
  · obtain ⟨j, hj⟩ : ∃ j : Nat, idxOf l v = j := by
      unfold idxOf
      cases h : l.findIdx? (· = v) with
      | some j => exact ⟨j, rfl⟩
      | none => rw [List.findIdx?_eq_none_iff] at h; have := h v hv; simp at this
    rw [hj]
    refine run ?_
    simp only [hv, decide_true]
    exact .retD Tryz.func86
  · rw [idxOf_no hv]
    refine run ?_
    simp only [hv, decide_false]
    exact .retD Tryz.func86
def ClonedI (X : HP) (l : List Int) : Fin := fun v L => ∃ A' c', v = .slice A' l.length c' ∧ L = [Gr 1 3 A' l.length c' (l.map iv), X]
theorem iclone_ok (hX : Reads X A (l.map iv)) (hl : l.length ≤ 1099511627776) : Fn Tryz.prog 65 [.slice A l.length c].toArray [X] (ClonedI X l) := by
  refine Fn.enter Tryz.func65 rfl (by kernel_rfl) rfl ?_
  refine W.fact (fun w h => nil_of hX .hd h) fun hnil => ?_
  refine run ?_
  refine RS.quiet rfl rfl rfl (Q.eqNilS rfl rfl rfl rfl rfl) ?_
  cases A with
  | none =>
    have hl0 : l = [] := by simpa using hnil rfl
    subst hl0
    refine run ?_
    refine W.ent (Ent.mk (X := Gr 1 3 none 0 0 []) fun r => .nil) ?_
    exact .retE Tryz.func65 ⟨none, 0, rfl, rfl⟩
  | some a =>
    refine run ?_
    refine RS.any rfl rfl rfl (N.buildSlice0 rfl rfl rfl rfl).op ?_
    rintro v L ⟨z, rfl, rfl⟩
    refine run ?_
    refine .push (sz := 1) (nn := 0) (m := l.length) (Src.pick rfl rfl .hd hX (by simp) rfl (by simp [isOne])) fun A' c' => ?_
    simp only [Nat.zero_add, List.nil_append]
    refine run ?_
    exact .retE Tryz.func65 ⟨A', c', rfl, rfl⟩
end
section
variable {X : HP} {A : Option Addr} {c n z p : Nat} {l : List Int} {v : Int} {cf : Cfg} {h : HW} {s : Nd} {x : EX}
abbrev fv (z : Nat) : Value := .func (.func 81) #[] #[pt z]
theorem pers22 {b b' : Nat} {o o' : Obj} : ∀ Q ∈ [Own false b o, Own false b' o'], Pers Q := by
  rintro Q (_ | ⟨_, _ | ⟨_, h⟩⟩)
  · exact Pers.own
  · exact Pers.own
  · cases h
theorem pers33 {b b' : Nat} {o o' : Obj} {A : Option Addr} {cs : List Value} : ∀ Q ∈ [Rd false A cs, Own false b o, Own false b' o'], Pers Q := by
  rintro Q (_ | ⟨_, h⟩)
  · exact Rd.pers
  · exact pers22 Q h
theorem lend22 {b b' : Nat} {o o' : Obj} {q q' : Bool} {L : List HP} : Ent (Own q b o :: Own q' b' o' :: L) (Own false b o :: Own false b' o' :: L) := (Ent.of fun _ h => h.lend).trans (.cons _ (.of fun _ h => h.lend))
theorem self_q {q qz : Bool} : FnQ Tryz.prog 81 [iv v, pt z].toArray [Blk qz z [pt p] 49, Nb q p cf h s x] (.bool (decide (v = s.id))) := by
  refine (Fn.quietD (M := [Blk false z [pt p] 49, Nb false p cf h s x]) ?_ pers22).pre lend22
  refine Fn.enter Tryz.func81 rfl (by kernel_rfl) rfl ?_
  refine run ?_
  exact .retD Tryz.func81
theorem idxf_q {q qz : Bool} (hX : Reads X A (l.map iv)) (hl : l.length ≤ 1099511627776) : FnQ Tryz.prog 111 [.slice A l.length c, fv z].toArray [X, Blk qz z [pt p] 49, Nb q p cf h s x] (iv (idxOf l s.id)) := by
  refine (Fn.quietD (M := [Rd false A (l.map iv), Blk false z [pt p] 49, Nb false p cf h s x]) ?_ pers33).pre ((Ent.of hX).trans (.cons _ lend22))
  have hR : Reads (Rd false A (l.map iv)) A (l.map iv) := Reads.rd
  refine Fn.enter Tryz.func111 rfl (by kernel_rfl) rfl ?_
  refine run ?_
  refine W.loopH (ι := Nat) (fun k => k ≤ l.length ∧ ∀ j, j < k → l[j]? ≠ some (s.id : Int)) (fun k => [(0, .slice A l.length c), (1, fv z), (7, iv l.length), (8, iv k)])
    (fun k => [Rd false A (l.map iv), Blk false z [pt p] 49, Nb false p cf h s x]) (fun k => l.length - k) 0 ⟨Nat.zero_le _, fun _ h => nomatch h⟩ subs (.refl _) ?_
  rintro k ⟨hk, hn⟩ ih
  by_cases hlt : k < l.length
  · have hx : l[k]? = some l[k] := List.getElem?_eq_getElem hlt
    generalize l[k] = y at hx
    refine W.fact (fun w h => IsA.of (k := k) hR .hd (by simpa using hlt) h) fun hA => ?_
    refine run ?_
    refine .quiet rfl rfl rfl (R.load (v := iv y) rfl rfl rfl rfl hR pick (by rw [Nat.mul_one]; simp [hx])) ?_
    refine .quiet rfl rfl rfl (Q.callC (self_q (v := y) (z := z) (p := p) (cf := cf) (h := h) (s := s) (x := x)) rfl rfl rfl (Ent.drop _)) ?_
    by_cases hy : y = s.id
    · subst hy
      refine RS.hit 16 rfl (by simp : _ = .bool true) ?_
      refine run ?_
      rw [idxOf_at hx hn]
      exact .retD Tryz.func111
    · refine RS.hit 16 rfl (by simp [hy] : _ = .bool false) ?_
      refine run ?_
      exact .back (ih (k + 1) ⟨by omega, fun j hj => by
        by_cases h : j = k
        · subst h; rw [hx]; intro e; injection e with e; exact hy e
        · exact hn j (by omega)⟩ (by omega))
  · refine run ?_
    rw [idxOf_no fun hm => by obtain ⟨j, h⟩ := List.mem_iff_getElem?.1 hm; exact hn j (by have := (List.getElem?_eq_some_iff.1 h).1; omega) h]
    exact .retD Tryz.func111
structure Dl (l : List Int) (id : Int) (k i : Nat) (cur : List Int) : Prop where
  len : cur.length = l.length
  i_eq : i = ((l.take k).filter (· ≠ id)).length
  lt : i < k
  front : cur.take i = (l.take k).filter (· ≠ id)
  back : cur.drop k = l.drop k
  k_le : k ≤ l.length
theorem Dl.skip {l cur : List Int} {id : Int} {k i : Nat} (h : Dl l id k i cur) (hx : l[k]? = some id) : Dl l id (k + 1) i cur := by
  have e : (l.take (k + 1)).filter (· ≠ id) = (l.take k).filter (· ≠ id) := by rw [List.take_add_one, hx]; simp
  have := (List.getElem?_eq_some_iff.1 hx).1
  exact ⟨h.len, by rw [e]; exact h.i_eq, by have := h.lt; omega, by rw [e]; exact h.front, by rw [← List.drop_drop, ← List.drop_drop, h.back], by omega⟩
theorem Dl.put {l cur : List Int} {id y : Int} {k i : Nat} (h : Dl l id k i cur) (hx : l[k]? = some y) (hy : y ≠ id) : Dl l id (k + 1) (i + 1) (cur.set i y) := by
  have hk := (List.getElem?_eq_some_iff.1 hx).1
  have e : (l.take (k + 1)).filter (· ≠ id) = (l.take k).filter (· ≠ id) ++ [y] := by rw [List.take_add_one, hx]; simp [hy]
  have hl := h.len
  have hi := h.lt
  refine ⟨by simpa using hl, by rw [e, List.length_append, ← h.i_eq]; rfl, by omega, ?_, ?_, by omega⟩
  · rw [e, ← h.front, List.take_add_one, List.getElem?_set_self (by omega), List.take_set_of_le (Nat.le_refl _)]; rfl
  · rw [List.drop_set_of_lt (by omega), ← List.drop_drop, ← List.drop_drop, h.back]
theorem delf_ok {q qz : Bool} (hl : l.length ≤ 1099511627776) : Fn Tryz.prog 80 [.slice A l.length c, fv z].toArray [Gr 1 3 A l.length c (l.map iv), Blk qz z [pt p] 49, Nb q p cf h s x]
    (fun v M => ∃ l' c', l' = l.filter (· ≠ (s.id : Int)) ∧ v = .slice A l'.length c' ∧ M = [Gr 1 3 A l'.length c' (l'.map iv), Blk qz z [pt p] 49, Nb q p cf h s x]) := by
  refine Fn.enter Tryz.func80 rfl (by kernel_rfl) rfl ?_
  refine run ?_
  refine .callQ (idxf_q (z := z) (p := p) (cf := cf) (h := h) (s := s) (x := x) .gr hl) ?_
  by_cases hm : (s.id : Int) ∈ l
  · obtain ⟨i0, h1, h2⟩ : ∃ i0 : Nat, l[i0]? = some (s.id : Int) ∧ ∀ j, j < i0 → l[j]? ≠ some (s.id : Int) := by
      have hx : (l.findIdx? (· = (s.id : Int))).isSome := by rw [List.findIdx?_isSome, List.any_eq_true]; exact ⟨_, hm, by simp⟩
      obtain ⟨i0, h0⟩ := Option.isSome_iff_exists.1 hx
      rw [List.findIdx?_eq_some_iff_getElem] at h0
      obtain ⟨a, b, d⟩ := h0
      exact ⟨i0, by rw [List.getElem?_eq_getElem a]; simpa using b, fun j hj => by rw [List.getElem?_eq_getElem (by omega)]; simpa using d j hj⟩
    rw [idxOf_at h1 h2]
    have hi0 := (List.getElem?_eq_some_iff.1 h1).1
    have d0 : Dl l s.id (i0 + 1) i0 l := by
      have e : (l.take (i0 + 1)).filter (· ≠ (s.id : Int)) = l.take i0 := by
        rw [List.take_add_one, h1]
        simp only [Option.toList_some, List.filter_append]
        rw [List.filter_eq_self.2]
        · simp
        · intro y hy
          obtain ⟨j, hj⟩ := List.mem_iff_getElem?.1 hy
          have hj' : j < i0 := by have := (List.getElem?_eq_some_iff.1 hj).1; simp at this; omega
          rw [List.getElem?_take_of_lt hj'] at hj
          have := h2 j hj'
          simp only [ne_eq, decide_not, Bool.not_eq_true', decide_eq_false_iff_not]
          rintro rfl; exact this hj
      exact ⟨rfl, by rw [e]; simp; omega, by omega, by rw [e], rfl, by omega⟩
    refine run ?_
    refine W.loopH (ι := Nat × Nat × List Int) (fun i => Dl l s.id i.1 i.2.1 i.2.2) (fun i => [(0, .slice A l.length c), (1, fv z), (5, iv i.2.1), (6, iv i.1)])
      (fun i => [Gr 1 3 A l.length c (i.2.2.map iv), Blk qz z [pt p] 49, Nb q p cf h s x]) (fun i => l.length - i.1) (i0 + 1, i0, l) d0 subs (.refl _) ?_
    rintro ⟨k, i, cur⟩ d ih
    dsimp only at d ih ⊢
    have hcl := d.len
    have hik := d.lt
    have hkl := d.k_le
    refine W.fact (fun w h => IsA.of (k := i) (Reads.gr) .hd (by simp; omega) h) fun hA => ?_
    by_cases hlt : k < l.length
    · have hx : l[k]? = some l[k] := List.getElem?_eq_getElem hlt
      generalize l[k] = y at hx
      have hc : cur[k]? = some y := by have := congrArg (fun m => m[0]?) d.back; simpa [List.getElem?_drop, hx] using this
      refine run ?_
      refine .quiet rfl rfl rfl (R.load (v := iv y) rfl rfl rfl rfl .gr pick (by rw [Nat.mul_one]; simp [hc])) ?_
      refine run ?_
      refine .quiet rfl rfl rfl (Q.callC (self_q (v := y) (z := z) (p := p) (cf := cf) (h := h) (s := s) (x := x)) rfl rfl rfl (Ent.drop _)) ?_
      by_cases hy : y = s.id
      · subst hy
        refine RS.hit 28 rfl (by simp : _ = .bool true) ?_
        refine run ?_
        exact .back (ih (k + 1, i, cur) (d.skip hx) (by dsimp only; omega))
      · refine RS.hit 28 rfl (by simp [hy] : _ = .bool false) ?_
        refine run ?_
        refine .det0 rfl rfl (O.storeRow rfl rfl rfl rfl rfl rfl pick (by simp; omega)) ?_
        refine run ?_
        have := ih (k + 1, i + 1, cur.set i y) (d.put hx hy) (by dsimp only; omega)
        simp only [List.map_set] at this
        rw [Nat.mul_one]
        exact .back this
    · have hk : k = l.length := by omega
      subst hk
      have hf := d.front
      rw [List.take_length] at hf
      have hfl : i = (l.filter (· ≠ (s.id : Int))).length := by rw [d.i_eq, List.take_length]
      refine W.fact (φ := l.length ≤ c) (fun w h => by
        obtain ⟨g, pre, junk, _, _, h2, _⟩ := Gr.own (L := [_, _]) h (by simp; omega)
        exact h2) fun hlc => ?_
      refine run ?_
      refine .quiet rfl rfl rfl (Q.sliceFrom (lo := i) rfl rfl rfl rfl rfl rfl (by omega)) ?_
      rw [if_neg (by omega)]
      refine .det0 rfl rfl (O.clearTail (A := A) (i := i) (m := l.length) rfl rfl rfl zero3 rfl rfl (by omega) rfl pick) ?_
      refine run ?_
      refine .quiet rfl rfl rfl (Q.sliceTo (hi := i) rfl rfl rfl rfl rfl rfl (by omega)) ?_
      refine run ?_
      rw [← List.map_take, hf, hfl]
      exact .retE Tryz.func80 ⟨_, c, rfl, rfl, rfl⟩
  · rw [idxOf_no hm]
    refine run ?_
    have e : l.filter (· ≠ (s.id : Int)) = l := by
      rw [List.filter_eq_self]
      intro y hy
      simp only [ne_eq, decide_not, Bool.not_eq_true', decide_eq_false_iff_not]
      rintro rfl; exact hm hy
    exact .retE Tryz.func80 ⟨l, c, e.symm, rfl, rfl⟩
end
end Go.SL
namespace Go.SL
open Go.Proofs Go.Proofs.YtocogcgnahbpkaaGreat
open Rs (Nd)
set_option maxRecDepth 10000
section
variable {P : Program} {n f : Nat} {e : Env} {L S : List HP} {o : Oper} {R : Fin} {k : List Item} {ds : List Deferred}
theorem Q.makeFunc {f : Go.Fn} {xs ys : Array Operand} {vs us : List Value} (ho : o.op = .makeFunc f xs ys) (hx : evs e xs.toList = some vs) (hy : evs e ys.toList = some us) : QOp P n e S o (.func f vs.toArray us.toArray) := .val fun w a h1 _ => by
  have e1 : xs.map a.eval = vs.toArray := by rw [← evs_eq h1 hx, ← Array.toList_map]
  have e2 : ys.map a.eval = us.toArray := by rw [← evs_eq h1 hy, ← Array.toList_map]
  unfold execOp; rw [ho]; simp only [Instr.makeFunc, e1, e2]; rfl
theorem TyIs.arr [Tab P] {t k d : Nat} {r : Row} (T : TyIs P t r) (hd : r.d = .arr k d) : T.u = .array k d := by have := T.d; rw [hd] at this; cases hT : T.u <;> simp [hT, dOf] at this; rw [this.1, this.2]
theorem Q.buildArr [Tab P] {t m d : Nat} {ps : Array (Nat × Operand)} {r re : Row} {cs : List Value} (ho : o.op = .build t ps) (ht : ty P t = some r) (hd : r.d = .arr m d) (hte : ty P d = some re) (hp : parts e (rowFs re.size ixs) ps.toList r.zero = some cs) : QOp P n e S o (.agg cs.toArray) := .val fun w a h1 _ => by
  obtain ⟨T⟩ := ty_is ht
  obtain ⟨TE⟩ := ty_is hte
  have h3 := fill_parts h1 (place := fun i => some (i * re.size, re.size)) (fun i off ft s h => by
    obtain ⟨q, hq, rfl, rfl⟩ := rowFs_get h; rw [ixs_get hq]) hp
  have h6 : (Instr.build t (ps.map fun x => (x.1, a.eval x.2))).run P w = .ok (.agg cs.toArray) w := by
    unfold Instr.build
    simp only [Sem.run_bind, T.run_zero, Result.andThen_ok, T.run_under, T.arr hd, TE.run_size, T.cells]
    have h5 : Instr.fill (fun i => some (i * re.size, re.size)) r.zero.toArray (ps.map fun x => (x.1, a.eval x.2)).toList = some cs.toArray := by simpa using h3
    simp only [h5]
    rfl
  unfold execOp; rw [ho]
  simp [h6]
theorem Q.neqB {t t' : Nat} {x y : Operand} {a b : Bool} (ho : o.op = .binOp .neq t x y t') (hx : ev e x = some (.bool a)) (hy : ev e y = some (.bool b)) (ht : P.underlying t = some .bool) : QOp P n e S o (.bool (!(a == b))) :=
  Q.bin ho hx hy (fun w => by unfold eqGuard; split <;> simp) fun w => run_neq_bool w t a b ht
theorem Q.neqH {t' : Nat} {x y : Operand} {a b c d : Int} (ho : o.op = .binOp .neq 45 x y t') (hx : ev e x = some (.agg #[iv a, iv b])) (hy : ev e y = some (.agg #[iv c, iv d])) : QOp Tryz.prog n e S o (.bool (decide (¬ (a = c ∧ b = d)))) :=
  Q.bin ho hx hy (fun w => run_eqGuard_agg w .neq 45 _ _ _ _ (by kernel_rfl)) fun w => by
    have u3 := Tryz.underlying3
    have a3 := Tryz.isAgg3
    have z3 := Tryz.sizeOf3
    have hS : Tryz.prog.underlying 45 = some (.struct (Tryz.prog.fieldsOf 45)) := by kernel_rfl
    have hp : Tryz.prog.stoodInHeld 45 = false := by kernel_rfl
    rw [run_neq_struct, show (10000 : Nat) = 9999 + 1 from rfl, run_equalIn_agg w 9999 45 _ _ hS hp]
    simp only [Program.fieldsOf, Tryz.underlying45]
    go_simp
    by_cases h1 : a = c <;> by_cases h2 : b = d <;> simp [h1, h2]
end
abbrev li (l : List Nat) : List Int := l.map fun n : Nat => (n : Int)
def Lg (A : Option Addr) (n c i : Nat) (l : List Rf.Ent) : HP := fun r => ∃ les : List LE, les.map (·.e) = ents i l ∧ Stars [Gr 3 67 A n c (les.flatMap encLE), Gs les] r
theorem Lg.close {A : Option Addr} {n c i : Nat} {l : List Rf.Ent} {les : List LE} {L : List HP} (h : les.map (·.e) = ents i l) : Ent (Gr 3 67 A n c (les.flatMap encLE) :: Gs les :: L) (Lg A n c i l :: L) :=
  (Ent.unstar (l := [_, _])).trans (.of fun _ hr => ⟨les, h, hr⟩)
theorem Sat.lg {w : World} {A : Option Addr} {n c i : Nat} {l : List Rf.Ent} {L : List HP} (h : Sat w (Lg A n c i l :: L)) : ∃ les : List LE, les.map (·.e) = ents i l ∧ Sat w (Gr 3 67 A n c (les.flatMap encLE) :: Gs les :: L) := by
  obtain ⟨les, h⟩ := Sat.ex h
  obtain ⟨r, a, r1, r2, x, y, z, ⟨h1, h2⟩, v⟩ := h
  have : Sat w (Stars [Gr 3 67 A n c (les.flatMap encLE), Gs les] :: L) := ⟨r, a, r1, r2, x, y, z, h2, v⟩
  exact ⟨les, h1, this.ent .star⟩
theorem W.lg {P : Program} {n' f : Nat} {e : Env} {L : List HP} {R : Fin} {k : List Item} {ds : List Deferred} {A : Option Addr} {n c i : Nat} {l : List Rf.Ent} (h : ∀ les : List LE, les.map (·.e) = ents i l → W P f n' R k e ds (Gr 3 67 A n c (les.flatMap encLE) :: Gs les :: L)) : W P f n' R k e ds (Lg A n c i l :: L) :=
  fun F b cs t w h1 h2 h3 h4 => let ⟨les, e1, e2⟩ := Sat.lg h4; h les e1 F b cs t w h1 h2 h3 e2
theorem FnQ.lg {P : Program} {f : Nat} {L : List HP} {ar : Array Value} {v : Value} {A : Option Addr} {n c i : Nat} {l : List Rf.Ent} (h : ∀ les : List LE, les.map (·.e) = ents i l → FnQ P f ar (Gr 3 67 A n c (les.flatMap encLE) :: Gs les :: L) v) (he : Enters P f) : FnQ P f ar (Lg A n c i l :: L) v :=
  ⟨he, fun w hs => let ⟨les, e1, e2⟩ := Sat.lg hs; (h les e1).2 w e2⟩
theorem Enters.of {P : Program} {f : Nat} {fn : Func} {c : Code} (hf : P.funcs[f]? = some fn) (hb : fn.body = some c) (hg : (fn.name == "runtime.NumGoroutine") = false) : Enters P f := fun a w => by simp [callFunc, hf, show fn.name ≠ "runtime.NumGoroutine" by simpa using hg, hb]
theorem les_at {les : List LE} {i k : Nat} {l : List Rf.Ent} {y : LE} (h : les.map (·.e) = ents i l) (hk : les[k]? = some y) : ∃ en, l[k]? = some en ∧ y.e = ⟨(i + k + 1 : Nat), en.term, en.data⟩ := by
  have h1 := congrArg (fun m => m[k]?) h
  simp only [List.getElem?_map, hk, ents_at, Option.map_some] at h1
  cases hl : l[k]? with
  | none => rw [hl] at h1; cases h1
  | some en => rw [hl] at h1; injection h1 with h1; exact ⟨en, rfl, h1⟩
theorem les_len {les : List LE} {i : Nat} {l : List Rf.Ent} (h : les.map (·.e) = ents i l) : les.length = l.length := by have := congrArg List.length h; simpa [ents_len] using this
theorem Lg.nil {i : Nat} {r : Res} : Lg none 0 0 i [] r := ⟨[], rfl, ⟨r, fun _ => none, .refl _, fun _ _ _ h => (nomatch h), fun _ _ _ _ _ _ h => (nomatch h), .nil, fun _ => none, fun _ => none, .refl _, .refl _, fun _ _ _ _ _ h => (nomatch h), trivial, trivial⟩⟩
structure LM where
  m : Rf.Msg
  A : Option Addr
  c : Nat
def encM (m : Rf.Msg) (A : Option Addr) (c : Nat) : List Value := [.int .i64 m.kind, .int .i64 m.src, .int .i64 m.dst, .int .i64 m.term, .int .i64 m.idx, .int .i64 m.lt, .int .i64 m.commit, .slice A m.es.length c, .bool m.rej, .int .i64 m.hint]
def encL (y : LM) : List Value := encM y.m y.A y.c
theorem lenLM (y : LM) : (encL y).length = 10 := rfl
def Es : List LM → HP
  | [] => fun _ => True
  | y :: l => Stars [Lg y.A y.m.es.length y.c y.m.idx y.m.es, Es l]
theorem Es.snoc {y : LM} : ∀ {l : List LM} {L : List HP}, Ent (Es l :: Lg y.A y.m.es.length y.c y.m.idx y.m.es :: L) (Es (l ++ [y]) :: L)
  | [], L => ((Ent.drop _).trans (Ent.mk (X := Es []) fun _ => trivial)).trans (((Pick.tl Pick.hd).ent).trans (Ent.unstar (l := [_, _])))
  | z :: l, L => by
    refine (Ent.star (l := [_, _]) (m := _ :: L)).trans ?_
    refine (Ent.cons _ (Es.snoc (l := l) (L := L))).trans ?_
    exact Ent.unstar (l := [_, _]) (m := L)
def Ms (A : Option Addr) (n c : Nat) (ms : List Rf.Msg) : HP := fun r => ∃ ys : List LM, ys.map (·.m) = ms ∧ Stars [Gr 10 59 A n c (ys.flatMap encL), Es ys] r
theorem Ms.close {A : Option Addr} {n c : Nat} {ms : List Rf.Msg} {ys : List LM} {L : List HP} (h : ys.map (·.m) = ms) : Ent (Gr 10 59 A n c (ys.flatMap encL) :: Es ys :: L) (Ms A n c ms :: L) :=
  (Ent.unstar (l := [_, _])).trans (.of fun _ hr => ⟨ys, h, hr⟩)
theorem Ms.nil {r : Res} : Ms none 0 0 [] r := ⟨[], rfl, ⟨r, fun _ => none, .refl _, fun _ _ _ h => (nomatch h), fun _ _ _ _ _ _ h => (nomatch h), .nil, fun _ => none, fun _ => none, .refl _, .refl _, fun _ _ _ _ _ h => (nomatch h), trivial, trivial⟩⟩
theorem Sat.ms {w : World} {A : Option Addr} {n c : Nat} {ms : List Rf.Msg} {L : List HP} (h : Sat w (Ms A n c ms :: L)) : ∃ ys : List LM, ys.map (·.m) = ms ∧ Sat w (Gr 10 59 A n c (ys.flatMap encL) :: Es ys :: L) := by
  obtain ⟨r, a, r1, r2, x, y, z, ⟨ys, h1, h2⟩, v⟩ := h
  have : Sat w (Stars [Gr 10 59 A n c (ys.flatMap encL), Es ys] :: L) := ⟨r, a, r1, r2, x, y, z, h2, v⟩
  exact ⟨ys, h1, this.ent .star⟩
theorem W.ms {P : Program} {n' f : Nat} {e : Env} {L : List HP} {R : Fin} {k : List Item} {ds : List Deferred} {A : Option Addr} {n c : Nat} {ms : List Rf.Msg} (h : ∀ ys : List LM, ys.map (·.m) = ms → W P f n' R k e ds (Gr 10 59 A n c (ys.flatMap encL) :: Es ys :: L)) : W P f n' R k e ds (Ms A n c ms :: L) :=
  fun F b cs t w h1 h2 h3 h4 => let ⟨ys, e1, e2⟩ := Sat.ms h4; h ys e1 F b cs t w h1 h2 h3 e2
theorem Gr.excl {sz E n c : Nat} {A : Option Addr} {cs : List Value} : Excl (Gr sz E A n c cs) := fun r ⟨h1, h2⟩ => ⟨h1, h2.imp id fun ⟨g, pre, junk, a, b, c, d, h⟩ => ⟨g, pre, junk, a, b, c, d, Excl.own r h⟩⟩
theorem Gs.excl : ∀ {l : List LE}, Excl (Gs l)
  | [] => fun _ _ => trivial
  | _ :: l => Excl.stars (l := [_, _]) fun Q hQ => by
    rcases List.mem_cons.1 hQ with rfl | hQ
    · exact Gr.excl
    · rw [List.mem_singleton.1 hQ]; exact Gs.excl
theorem Lg.excl {A : Option Addr} {n c i : Nat} {l : List Rf.Ent} : Excl (Lg A n c i l) := fun r ⟨les, h1, h2⟩ => ⟨les, h1, Excl.stars (l := [_, _]) (fun Q hQ => by
  rcases List.mem_cons.1 hQ with rfl | hQ
  · exact Gr.excl
  · rw [List.mem_singleton.1 hQ]; exact Gs.excl) r h2⟩
theorem Gs.app : ∀ {a b : List LE} {L : List HP}, Ent (Gs a :: Gs b :: L) (Gs (a ++ b) :: L)
  | [], b, L => .drop _
  | y :: l, b, L => by
    refine (Ent.star (l := [_, _]) (m := _ :: L)).trans ?_
    refine (Ent.cons _ (Gs.app (a := l) (b := b) (L := L))).trans ?_
    exact Ent.unstar (l := [_, _]) (m := L)
theorem Ds.pers {l : List LE} : Pers (Ds l) := fun r h x hx => Rd.pers r (h x hx)
theorem Ds.sub {l m : List LE} {r : Res} (h : Ds l r) (hs : ∀ x ∈ m, x ∈ l) : Ds m r := fun x hx => h x (hs x hx)
theorem Rd.mid {q : Bool} {A : Option Addr} {a b c : List Value} {r : Res} (h : Rd q A (a ++ b ++ c) r) : Rd q (adr A a.length) b r := by
  rcases h with h | ⟨g, off, E, fz, pre, post, h1, h2, h3⟩
  · simp only [List.append_eq_nil_iff] at h; exact .inl h.1.2
  · refine .inr ⟨g, off + a.length, E, fz, pre ++ a, c ++ post, by rw [h1]; simp [adr, addr_add], by simp [h2], ?_⟩
    simpa only [List.append_assoc] using h3
theorem Rd.part {q : Bool} {A : Option Addr} {l : List LE} {r : Res} (i k : Nat) (h : Rd q A (l.flatMap encLE) r) : Rd q (adr A (i * 3)) (((l.drop i).take k).flatMap encLE) r := by
  by_cases hi : i ≤ l.length
  · have e : l = l.take i ++ (l.drop i).take k ++ (l.drop i).drop k := by rw [List.append_assoc, List.take_append_drop, List.take_append_drop]
    rw [e, List.flatMap_append, List.flatMap_append] at h
    have := h.mid
    rw [flat_len lenLE, List.length_take, Nat.min_eq_left hi] at this
    exact this
  · rw [List.drop_eq_nil_of_le (by omega)]; exact .inl (by simp)
theorem Gr.cap {w : World} {sz E n c : Nat} {A : Option Addr} {cs : List Value} {L : List HP} (h : Sat w (Gr sz E A n c cs :: L)) : n ≤ c := by
  obtain ⟨r, a, r1, r2, x, y, z, ⟨h1, h2⟩, v⟩ := h
  rcases h2 with ⟨rfl, rfl⟩ | ⟨_, _, _, _, h, _⟩ <;> omega
theorem Gr.len {w : World} {sz E n c : Nat} {A : Option Addr} {cs : List Value} {L : List HP} (h : Sat w (Gr sz E A n c cs :: L)) : cs.length = n * sz := by
  obtain ⟨r, a, r1, r2, x, y, z, ⟨h1, _⟩, v⟩ := h; exact h1
end Go.SL
namespace Go.SL
open Go.Proofs Go.Proofs.YtocogcgnahbpkaaGreat
open Rs (Nd)
attribute [local irreducible] W RS RG RD Fn FnQ OpS QOp Own Sat Rd Gr Mp Lg
set_option maxRecDepth 10000
section
variable {XP : HP} {c : Cfg} {h : HW} {s : Nd} {x : EX} {p : Nat} {q : Bool}
theorem term_r (hs : Sm c h s) {les : List LE} (hl : les.map (·.e) = ents s.snap (s.log.drop s.snap)) {i : Nat} (hi : s.snap ≤ i ∧ i ≤ s.log.length) : FnQ Tryz.prog 107 [pt p, iv i].toArray [Nb false p c h s x, Rd false h.lA (les.flatMap encLE)] (iv (s.tm i)) := by
  have hll := les_len hl
  simp only [List.length_drop] at hll
  refine Fn.quietD (M := [Nb false p c h s x, Rd false h.lA (les.flatMap encLE)]) ?_ pers2
  have hf := hs.fin
  have hln := hs.ln
  have hR : Reads (Rd false h.lA (les.flatMap encLE)) h.lA (les.flatMap encLE) := .rd
  refine Fn.enter Tryz.func107 rfl (by kernel_rfl) rfl ?_
  by_cases h0 : i = s.snap
  · subst h0
    refine run ?_
    rw [← hs.tS]
    exact .retD Tryz.func107
  · obtain ⟨y, hy⟩ : ∃ y, les[i - s.snap - 1]? = some y := ⟨_, List.getElem?_eq_getElem (by omega)⟩
    obtain ⟨en, he, hye⟩ := les_at hl hy
    have ht : s.tm i = en.term := by
      unfold Nd.tm Rf.tmL
      rw [List.getElem?_drop, show s.snap + (i - s.snap - 1) = i - 1 by omega] at he
      rw [if_neg (by omega), he]; rfl
    refine W.fact (fun w h => IsA.of (k := (i - s.snap - 1) * 3) hR (by exact pick) (by rw [flat_len lenLE]; omega) h) fun hA => ?_
    refine run ?_
    refine W.plan [] mixed (by rfl) (by kernel_rfl) ?_
    refine run ?_
    refine RG.hit 25 rfl (by congr 1; omega : _ = iv (i - s.snap - 1 : Nat)) ?_
    refine run ?_
    rw [ht]
    refine W.hit 4 rfl (by simp [encLE, hye] : _ = iv en.term) ?_
    exact .retD Tryz.func107
theorem term_q (hs : Sm c h s) {i : Nat} (hi : s.snap ≤ i ∧ i ≤ s.log.length) : FnQ Tryz.prog 107 [pt p, iv i].toArray [Lg h.lA h.ln h.lc s.snap (s.log.drop s.snap), Nb q p c h s x] (iv (s.tm i)) := by
  refine FnQ.lg (fun les hl => ?_) (.of Tryz.func107 rfl (by kernel_rfl))
  exact (term_r hs hl hi).pre ((Picks.sub (a := [Nb q p c h s x, Gr 3 67 h.lA h.ln h.lc (les.flatMap encLE)]) picks).trans (lend2 .gr))
theorem isOther_q (hX : Reads XP h.pA ((li (List.range' 1 c.n)).map iv)) (hn : c.n ≤ 5) {v : Int} : FnQ Tryz.prog 108 [pt p, iv v].toArray [Nb q p c h s x, XP] (.bool (decide (v ∈ li (Rs.others c s.id)))) := by
  refine (Fn.quietD (M := [Nb false p c h s x, Rd false h.pA ((li (List.range' 1 c.n)).map iv)]) ?_ pers2).pre (lend2 hX)
  have hlen : c.n = (li (List.range' 1 c.n)).length := by simp
  have hh := has_q (c := h.pc) (v := v) (Reads.rd (q := false) (A := h.pA) (cs := (li (List.range' 1 c.n)).map iv)) (by rw [← hlen]; omega)
  rw [← hlen] at hh
  refine Fn.enter Tryz.func108 rfl (by kernel_rfl) rfl ?_
  by_cases h0 : v = s.id
  · refine run ?_
    refine W.hit 4 rfl (by rw [decide_eq_false]; simp [Rs.others, h0]; intros; omega : _ = .bool (decide (v ∈ li (Rs.others c s.id)))) ?_
    exact .retD Tryz.func108
  · refine run ?_
    refine .callQ hh ?_
    refine run ?_
    refine W.hit 4 rfl (by
      congr 1; rw [decide_eq_decide]
      simp only [List.mem_map, Rs.others, List.mem_filter, decide_eq_true_eq]
      constructor
      · rintro ⟨a, ha, rfl⟩; exact ⟨a, ⟨ha, by simpa using fun e => h0 (by rw [e])⟩, rfl⟩
      · rintro ⟨a, ⟨ha, _⟩, rfl⟩; exact ⟨a, ha, rfl⟩ : _ = .bool (decide (v ∈ li (Rs.others c s.id)))) ?_
    exact .retD Tryz.func108
theorem others_ok (hX : Reads XP h.pA ((li (List.range' 1 c.n)).map iv)) (hn : c.n ≤ 5) : Fn Tryz.prog 59 [pt p].toArray [Nb true p c h s x, XP]
    (fun v M => ∃ A c', v = .slice A (Rs.others c s.id).length c' ∧ M = [Gr 1 3 A (Rs.others c s.id).length c' ((li (Rs.others c s.id)).map iv), Nb true p c h s x, XP]) := by
  have hlen : c.n = (li (List.range' 1 c.n)).length := by simp
  have hh := iclone_ok (c := h.pc) hX (by rw [← hlen]; omega)
  rw [← hlen] at hh
  refine Fn.enter Tryz.func59 rfl (by kernel_rfl) rfl ?_
  refine run ?_
  refine .box1 fun z => ?_
  refine run ?_
  refine .callE hh ?_
  rintro v L ⟨A, c', rfl, rfl⟩
  refine run ?_
  refine .quiet rfl rfl rfl (Q.makeFunc rfl rfl rfl) ?_
  have hd := delf_ok (A := A) (c := c') (z := z) (p := p) (cf := c) (h := h) (s := s) (x := x) (l := li (List.range' 1 c.n)) (q := true) (qz := true) (by rw [← hlen]; omega)
  rw [← hlen] at hd ⊢
  refine .callE hd ?_
  rintro v L ⟨l', c2, rfl, rfl, rfl⟩
  have e : (li (List.range' 1 c.n)).filter (· ≠ (s.id : Int)) = li (Rs.others c s.id) := by
    unfold li Rs.others
    rw [List.filter_map]
    congr 1
    apply List.filter_congr
    intro a _
    simp
    omega
  rw [e]
  refine run ?_
  simp only [List.length_map]
  exact .retE Tryz.func59 ⟨A, c2, rfl, rfl⟩
end
end Go.SL
